/- Laws and walks that the proof leans on (part 3): NumWeight; NumGraph; NumRatV; NumStar; NumSemi; NumSem and others. No condition. -/
import Derived.Test.YtaaichlgdgjgjaaGreatDoorPart2
import Derived.Test.YtaaichlgdgjgjaaGreatDoorProg
set_option linter.unusedVariables false
set_option linter.unusedSimpArgs false
set_option maxRecDepth 100000
open List (all_eq_true append_assoc drop_eq_getElem_cons drop_zero getElem?_map getElem_mem length_drop length_replicate length_set length_take map_append map_set mem_append mem_cons_self mem_singleton take_of_length_le take_zero)
open Nat (lt_irrefl lt_or_ge mod_lt mul_pos ne_of_gt sub_zero)
open Option (getD_some)
open Go.IntKind (wrap)
section
namespace Go.Num
theorem IM:ay [105,110,102]=false:=by rfl
theorem vG:ay [45,105,110,102]=false:=by rfl
theorem fw:ay [48]=true:=by decide
theorem ED{a:List UInt8}(h:ay a=true):dc a [48]=0↔a=[48]:=by
 constructor
 ·intro e;unfold dc at e;rw[if_pos ⟨h,fw⟩]at e;have r:=aY.1 h;have f:val (ak [48])=1:=by decide
  have i:val (numOf [48])=0:=by decide
  rw[f,i,Nat.mul_one,Nat.zero_mul,show isNeg [48]=false from rfl,Bool.not_false]at e;have d:val (numOf a)=0:=by
   unfold dK at e;by_cases b:isNeg a=true
   ·rw[if_pos b]at e;dsimp only at e;rw[Nat.add_zero]at e;by_cases c:val (numOf a)=0
    ·exact c
    ·rw[if_neg c,if_pos b]at e;exact absurd e (by decide)
   ·rw[if_neg b,if_neg (Nat.not_lt_zero _)]at e;dsimp only at e;rw[sub_zero]at e;by_cases c:val (numOf a)=0
    ·exact c
    ·rw[if_neg c,if_neg b]at e;exact absurd e (by decide)
  have b:=(iu r.num).2 d;have k:isNeg a=false:=by
   cases g:isNeg a with
   |false=>rfl
   |true=>exact absurd ⟨g,b⟩ r.neg
  have j:ak a=[49]:=by
   refine(tA r.den).2 ?_;have:=r.one;rw[d,Nat.gcd_zero_left]at this;exact this
  have l:bm a=false:=by
   cases g:bm a with
   |false=>rfl
   |true=>exact absurd ⟨g,.inr j⟩ r.fr
  grind[take_of_length_le,bk,numOf,bm]
 ·rintro rfl;decide
def bN(b:Int)(a:List UInt8):Bool:=decide (1<=b/\b<=3)&&ay a&&(b==1||decide (0<dc a [48]))
variable{n:Nat}{m:Nat}
def eY(s:Bool)(n:Nat):Int:=if s=true then -(n:Int)else n
def bg(a:List UInt8):Rat:=mkRat (eY (isNeg a) (val (numOf a))) (val (ak a))
def cP(s:Bool)(n d:Nat):List UInt8:=(if s=true/\n≠0 then[45]else[])++(ag n++(if d=1 then[]else 47::ag d))
theorem G4(n:Nat):∃c r,ag n=c::r/\bS c=true:=by
 have h:=cZ n
 cases e:ag n with
 |nil=>grind[rp]
 |cons c r=>grind
theorem Ct{c:UInt8}(r:List UInt8):∀{l:List UInt8},(∀x∈l,x≠c)->cO c (l++r)=l.length+cO c r
 |[],_=>by simp
 |x::l,h=>by
  show(if x=c then 0 else cO c (l++r)+1)=_;rw[if_neg (h x (mem_cons_self ..)),Ct r λy a=>h y (List.mem_cons_of_mem _ a),List.length_cons];omega
theorem R9{c:UInt8}(b:bS c=false):∀x∈ag n,x≠c:=λx a e=>by grind[cZ]
structure Ch(a:List UInt8)(s:Bool)(n d:Nat):Prop where
 neg:isNeg a=s
 num:numOf a=ag n
 den:ak a=ag d
 str:bm a=decide (d≠1)
theorem IE(s:Bool)(n d:Nat):isNeg (cP s n d)=decide (s=true/\n≠0)/\bk (cP s n d)=ag n++(if d=1 then[]else 47::ag d):=by
 have b:isNeg (cP s n d)=decide (s=true/\n≠0):=by
  unfold cP isNeg;by_cases c:s=true/\n≠0
  ·rw[if_pos c,decide_eq_true c];rfl
  ·rw[if_neg c,decide_eq_false c];obtain⟨x,r,e,a⟩:=G4 n;rw[e];show(some x==some 45)=false;have:x≠45:=λe=>by rw[e]at a;exact absurd a (by decide)
   simpa using this
 refine⟨b,?_⟩;unfold bk;rw[b];unfold cP
 grind
theorem xr(s:Bool)(n d:Nat):Ch (cP s n d) (decide (s=true/\n≠0)) n d:=by
 obtain⟨b,e⟩:=IE s n d;have f:cO 47 (ag n++(if d=1 then[]else 47::ag d))=(ag n).length:=by
  rw[Ct _ (R9 (by decide))];split
  ·rfl
  ·rfl
 have a:bm (cP s n d)=decide (d≠1):=by
  unfold bm;rw[e,f];by_cases c:d=1
  ·grind
  ·grind
 refine⟨b,?_,?_,a⟩
 ·simp_all[numOf]
 ·unfold ak;rw[a];by_cases c:d=1
  all_goals simp_all[AW]
theorem ri(s:Bool):eY s 0=0:=by grind[eY]
theorem OW(s:Bool)(n:Nat):eY (decide (s=true/\n≠0)) n=eY s n:=by
 by_cases c:n=0
 ·subst c;rw[ri,ri]
 simp_all
theorem uD(s:Bool)(n:Nat):(eY s n).natAbs=n:=by grind[eY]
theorem Ch.val{a:List UInt8}{s:Bool}(p:Ch a s n m):bg a=mkRat (eY s n) m:=by
 unfold bg;rw[p.neg,p.num,p.den,bu,bu]
theorem Cx(s:Bool)(n d:Nat):bg (cP s n d)=mkRat (eY s n) d:=by rw[(xr s n d).val,OW]
theorem AT{s:Bool}(c:(ag n).length<=400)(e:(ag m).length<=400)(d:0<m)(f:Nat.gcd n m=1):ay (cP s n m)=true:=by
 have p:=xr s n m;have b:∀a,(ag a).length<=400->valid (ag a)=true:=λa h=>gn.2 ⟨vF a,by omega⟩;refine aY.2 ⟨?_,?_,?_,?_,?_,?_,?_⟩
 ·rw[p.num];grind
 ·rw[p.den];grind
 ·rw[p.num];omega
 ·rw[p.den];omega
 ·rw[p.neg,p.num,bM]
  grind
 ·rw[p.str,p.den,bM,eo]
  grind
 ·rw[p.num,p.den,bu,bu];omega
theorem gO.den_pos{a:List UInt8}(r:gO a):0<val (ak a):=by
 refine Nat.pos_of_ne_zero λe=>?_;have h:=(iu r.den).2 e
 cases b:bm a with
 |true=>exact r.fr ⟨b,.inl h⟩
 |false=>grind[ak]
theorem gO.txt{a:List UInt8}(r:gO a):a=cP (isNeg a) (val (numOf a)) (val (ak a)):=by
 obtain⟨n,o,_,k⟩:=cD r.num;obtain⟨d,q,_,f⟩:=cD r.den;have s:(if isNeg a=true/\val (numOf a)≠0 then[45]else([]:List UInt8))=if isNeg a=true then[45]else[]:=by
  by_cases c:isNeg a=true
  ·rw[if_pos c,if_pos ⟨c,λe=>r.neg ⟨c,(iu r.num).2 e⟩⟩]
  ·rw[if_neg c,if_neg λh=>c h.1]
 have u:a=(if isNeg a=true then[45]else[])++bk a:=by
  unfold bk;by_cases c:isNeg a=true
  ·rw[if_pos c,if_pos c];unfold isNeg at c
   cases a with
   |nil=>cases c
   |cons x l=>
    have:x=45:=by simpa using c
    rw[this];rfl
  ·rw[if_neg c,if_neg c];rfl
 have g:bm a=true↔val (ak a)≠1:=by
  constructor
  ·exact λh e=>r.fr ⟨h,.inr ((tA r.den).2 e)⟩
  ·intro h
   cases c:bm a with
   |true=>rfl
   |false=>
    refine absurd ?_ h;unfold ak;rw[c];exact I1
 have t:bk a=ag (val (numOf a))++(if val (ak a)=1 then[]else 47::ag (val (ak a))):=by
  rw[k,f,<-o,<-q];by_cases c:bm a=true
  ·rw[if_neg (by rw[<-f];exact g.1 c)];have i:ak a=(bk a).drop (cO 47 (bk a)+1):=by unfold ak;rw[if_pos c]
   rw[i];unfold numOf;unfold bm at c;have c:=dT c;have b:∀{l:List UInt8},cO 47 l<l.length->l=l.take (cO 47 l)++47::l.drop (cO 47 l+1):=λ{l}=>by
    induction l with
    |nil=>intro h;simp at h
    | cons x l p=>
     intro h;by_cases e:x=47
     ·have:cO 47 (x::l)=0:=by unfold cO;rw[if_pos e]
      rw[this,e];rfl
     ·have j:cO 47 (x::l)=cO 47 l+1:=by unfold cO;rw[if_neg e];cases l<;>rfl
      rw[j,List.take_succ_cons,List.drop_succ_cons,List.cons_append,<-p (by rw[j]at h;simpa using h)]
   exact b c
  ·have m:val (ak a)=1:=Classical.byContradiction λh=>c (g.2 h);rw[if_pos (by rw[<-f];exact m),List.append_nil];unfold numOf;unfold bm at c;rw[take_of_length_le (by simp at c;exact c)]
 grind[cP]
theorem gO.wM{a:List UInt8}(r:gO a):(bg a).num=eY (isNeg a) (val (numOf a)):=by
 unfold bg;rw[Rat.num_mkRat,if_neg (ne_of_gt r.den_pos),uD,Nat.gcd_comm,r.one];simp
theorem gO.Hh{a:List UInt8}(r:gO a):(bg a).den=val (ak a):=by
 unfold bg;rw[Rat.den_mkRat,if_neg (ne_of_gt r.den_pos),uD,Nat.gcd_comm,r.one];simp
theorem wo{a b:List UInt8}(m:ay a=true)(i:ay b=true)(e:bg a=bg b):a=b:=by
 have f:=aY.1 m;have d:=aY.1 i;have g:=f.wM;have h:=f.Hh;rw[e,d.wM]at g;rw[e,d.Hh]at h;have l:val (numOf a)=val (numOf b):=by
  have:=congrArg Int.natAbs g;rw[uD,uD]at this;exact this.symm
 rw[f.txt,d.txt,<-h,<-l];congr 1;by_cases n:val (numOf a)=0
 ·have j:isNeg a=false:=by
   cases c:isNeg a with
   |false=>rfl
   |true=>exact absurd ⟨c,(iu f.num).2 n⟩ f.neg
  have k:isNeg b=false:=by
   cases c:isNeg b with
   |false=>rfl
   |true=>exact absurd ⟨c,(iu d.num).2 (by omega)⟩ d.neg
  rw[j,k]
 grind[eY]
theorem Cz(s:Bool)(A:Nat)(t:Bool)(B:Nat):eY (dK s A t B).1 (dK s A t B).2=eY s A+eY t B:=by
 unfold dK eY
 grind
theorem Fx(s:Bool)(n:Nat):eY (!s) n = - eY s n:=by grind[eY]
theorem Se{s:Bool}:eY s n<0↔s=true/\n≠0:=by grind[eY]
theorem IU{s:Bool}:eY s n=0↔n=0:=by grind[eY]
theorem Fw(s t:Bool)(m n:Nat):eY (s !=t) (m*n)=eY s m*eY t n:=by unfold eY;grind
theorem mw(s:Bool)(m n:Nat):eY s (m*n)=eY s m*n:=by grind[eY]
theorem AQ{a b:List UInt8}(f:ay a=true)(c:ay b=true):(dc a b<0↔bg a<bg b)/\(dc a b=0↔bg a=bg b):=by
 have e:=aY.1 f;have d:=aY.1 c;unfold dc;rw[if_pos ⟨f,c⟩];have h:=Cz (isNeg a) (val (numOf a)*val (ak b)) (!isNeg b) (val (numOf b)*val (ak a));generalize dK (isNeg a) (val (numOf a)*val (ak b)) (!isNeg b) (val (numOf b)*val (ak a))=z at*;rw[Fx,mw,mw,<-e.wM,<-d.wM,<-e.Hh,<-d.Hh]at h;rw[Rat.lt_iff,Rat.eq_iff_mul_eq_mul];have g:=Se (s:=z.1) (n:=z.2);have i:=IU (s:=z.1) (n:=z.2)
 grind
def lK(s:Bool)(n d:Nat):Option (List UInt8):=if 400<(ag (n/Nat.gcd n d)).length\/400<(ag (d/Nat.gcd n d)).length then none else some (cP s (n/Nat.gcd n d) (d/Nat.gcd n d))
def qf(a b:List UInt8):Option (List UInt8):=lK (dK (isNeg a) (val (numOf a)*val (ak b)) (isNeg b) (val (numOf b)*val (ak a))).1 (dK (isNeg a) (val (numOf a)*val (ak b)) (isNeg b) (val (numOf b)*val (ak a))).2 (val (ak a)*val (ak b))
def Cv(a b:List UInt8):Option (List UInt8):=lK (isNeg a !=isNeg b) (val (numOf a)*val (numOf b)) (val (ak a)*val (ak b))
def G0(a b:List UInt8):Option (List UInt8):=lK (isNeg a !=isNeg b) (val (numOf a)*val (ak b)) (val (ak a)*val (numOf b))
def qg(a:List UInt8):List UInt8:=cP (!isNeg a) (val (numOf a)) (val (ak a))
theorem tl{s:Bool}{c:List UInt8}(b:0<m)(h:lK s n m=some c):ay c=true/\bg c=mkRat (eY s n) m:=by
 unfold lK at h;split at h
 ·cases h
 ·next g=>
  obtain rfl:=oI h;have e:0<Nat.gcd n m:=Nat.gcd_pos_of_pos_right n b;have f:=Nat.gcd_dvd_left n m;have d:=Nat.gcd_dvd_right n m;have a:0<m/Nat.gcd n m:=Nat.div_pos (Nat.le_of_dvd b d) e;refine⟨AT (by omega) (by omega) a ?_,?_⟩
  ·grind[Nat.gcd_div,Nat.div_self]
  ·rw[Cx,Rat.mkRat_eq_iff (ne_of_gt a) (ne_of_gt b),<-mw,<-mw]
   grind[Nat.div_mul_cancel,Nat.mul_assoc]
theorem Lr{s:Bool}(a:(ag n).length<=400)(b:(ag m).length<=400)(c:Nat.gcd n m=1):lK s n m=some (cP s n m):=by simp_all[lK]
theorem pH{a b c:List UInt8}(j:ay a=true)(f:ay b=true)(h:qf a b=some c):ay c=true/\bg c=bg a+bg b:=by
 have e:=aY.1 j;have d:=aY.1 f;obtain⟨g,i⟩:=tl (mul_pos e.den_pos d.den_pos) h;refine⟨g,?_⟩;rw[i,Cz,mw,mw];unfold bg;rw[Rat.mkRat_add_mkRat _ _ (ne_of_gt e.den_pos) (ne_of_gt d.den_pos)]
theorem IN{a b c:List UInt8}(g:ay a=true)(d:ay b=true)(h:Cv a b=some c):ay c=true/\bg c=bg a*bg b:=by
 have f:=aY.1 g;have e:=aY.1 d;obtain⟨i,j⟩:=tl (mul_pos f.den_pos e.den_pos) h
 grind[Fw,Rat.mkRat_mul_mkRat,bg]
theorem IH{a b c:List UInt8}(l:ay a=true)(i:ay b=true)(f:val (numOf b)≠0)(h:G0 a b=some c):ay c=true/\bg c=bg a*(bg b)⁻¹:=by
 have d:=aY.1 l;have g:=aY.1 i;obtain⟨j,k⟩:=tl (mul_pos d.den_pos (Nat.pos_of_ne_zero f)) h;refine⟨j,?_⟩;have m:bg c*bg b=bg a:=by
  rw[k,Fw];unfold bg;rw[Rat.mkRat_mul_mkRat,Rat.mkRat_eq_iff (ne_of_gt (mul_pos (mul_pos d.den_pos (Nat.pos_of_ne_zero f)) g.den_pos)) (ne_of_gt d.den_pos)];have e:∀(s t:Bool)(A B C D:Nat),eY s A*eY t B*eY t C*(D:Int)=eY s A*((D*C*B:Nat):Int):=λs t A B C D=>by
   unfold eY
   cases s<;>cases t<;>simp<;>grind
  exact e _ _ _ _ _ _
 have n:bg b≠0:=λe=>f (by
  have:=g.wM;rw[e]at this;exact IU.1 this.symm)
 grind
theorem uC{a:List UInt8}(g:ay a=true):ay (qg a)=true/\bg (qg a) = - bg a:=by
 have b:=aY.1 g;obtain⟨n,e,_,c⟩:=cD b.num;obtain⟨d,f,_,h⟩:=cD b.den;unfold qg;refine⟨AT ?_ ?_ b.den_pos b.one,?_⟩
 ·rw[c,<-e];exact b.ln
 ·rw[h,<-f];exact b.ld
 grind[Cx,Fx,Rat.neg_mkRat,bg]
section
structure bh(K:Type) where
 zero:K
 one:K
 add:K->K->K
 mul:K->K->K
 star:K->K
 le:K->K->Prop
 add_assoc:∀a b c,add (add a b) c=add a (add b c)
 add_comm:∀a b,add a b=add b a
 zero_add:∀a,add zero a=a
 mul_assoc:∀a b c,mul (mul a b) c=mul a (mul b c)
 mul_comm:∀a b,mul a b=mul b a
 one_mul:∀a,mul one a=a
 zero_mul:∀a,mul zero a=zero
 mul_add:∀a b c,mul a (add b c)=add (mul a b) (mul a c)
 le_refl:∀a,le a a
 le_trans:∀{a b c},le a b->le b c->le a c
 B2:∀{a b},le a b->le b a->a=b
 zero_le:∀a,le zero a
 wz:∀{a b c d},le a b->le c d->le (add a c) (add b d)
 HE:∀{a b}(c),le a b->le (mul c a) (mul c b)
 yT:∀a,add one (mul a (star a))=star a
 sw:∀{a b x},le (add b (mul a x)) x->le (mul (star a) b) x
namespace bh
def cx{K:Type}(S:bh K)(f:Nat->K):Nat->K
 |0=>S.zero
 |n+1=>S.add (cx S f n) (f n)
variable {K:Type} {S:bh K}
theorem add_zero(a:K):S.add a S.zero=a:=by rw[S.add_comm,S.zero_add]
theorem mul_zero(a:K):S.mul a S.zero=S.zero:=by rw[S.mul_comm,S.zero_mul]
theorem mul_one(a:K):S.mul a S.one=a:=by rw[S.mul_comm,S.one_mul]
theorem add_mul(a b c:K):S.mul (S.add a b) c=S.add (S.mul a c) (S.mul b c):=by rw[S.mul_comm,S.mul_add,S.mul_comm c a,S.mul_comm c b]
theorem EN(a b c:K):S.add a (S.add b c)=S.add b (S.add a c):=by rw[<-S.add_assoc,S.add_comm a b,S.add_assoc]
theorem abW(a b c d:K):S.add (S.add a b) (S.add c d)=S.add (S.add a c) (S.add b d):=by rw[S.add_assoc,S.add_assoc,EN b c d]
theorem aI{f g:Nat->K}:∀{n:Nat},(∀i,i<n->f i=g i)->S.cx f n=S.cx g n
 |0,_=>rfl
 |n+1,h=>by
  show S.add _ _=S.add _ _;rw[aI λi a=>h i (Nat.lt_succ_of_lt a),h n (Nat.lt_succ_self n)]
theorem iJ(f g:Nat->K):∀n,S.cx (λi=>S.add (f i) (g i)) n=S.add (S.cx f n) (S.cx g n)
 |0=>(S.zero_add _).symm
 |n+1=>by
  show S.add (S.cx _ n) _=S.add (S.add _ _) (S.add _ _);rw[iJ f g n,abW]
theorem yZ(c:K)(f:Nat->K):∀n,S.cx (λi=>S.mul c (f i)) n=S.mul c (S.cx f n)
 |0=>(mul_zero c).symm
 |n+1=>by
  show S.add (S.cx _ n) _=S.mul c (S.add _ _);rw[yZ c f n,S.mul_add]
theorem ve(c:K)(f:Nat->K)(n:Nat):S.cx (λi=>S.mul (f i) c) n=S.mul (S.cx f n) c:=by
 rw[S.mul_comm,<-yZ];exact aI λi _=>S.mul_comm _ _
theorem hK:∀n,S.cx (λ_=>S.zero) n=S.zero
 |0=>rfl
 |n+1=>by
  show S.add (S.cx _ n) _=_;rw[hK n,S.zero_add]
theorem zb(f:Nat->Nat->K)(m:Nat):∀n,S.cx (λi=>S.cx (f i) m) n=S.cx (λj=>S.cx (λi=>f i j) n) m
 |0=>(hK m).symm
 |n+1=>by
  show S.add (S.cx _ n) _=_;rw[zb f m n,<-iJ];rfl
theorem VP{f g:Nat->K}:∀{n:Nat},(∀i,i<n->S.le (f i) (g i))->S.le (S.cx f n) (S.cx g n)
 |0,_=>S.le_refl _
 |n+1,h=>S.wz (VP λi a=>h i (Nat.lt_succ_of_lt a)) (h n (Nat.lt_succ_self n))
theorem le_of_eq{a b:K}(h:a=b):S.le a b:=h▸S.le_refl a
def elim{K:Type}(S:bh K)(a:Nat->Nat->K):Nat->Nat->Nat->K
 |0=>a
 |k+1=>λi j=>S.add (elim S a k i j) (S.mul (S.mul (elim S a k i k) (S.star (elim S a k k k))) (elim S a k k j))
theorem VK(a b:K):S.add b (S.mul (S.mul b (S.star a)) a)=S.mul b (S.star a):=by
 have h:S.mul b (S.add S.one (S.mul a (S.star a)))=S.mul b (S.star a):=by rw[S.yT]
 rw[S.mul_add,mul_one]at h;rw[S.mul_assoc,S.mul_comm (S.star a) a];exact h
theorem N5(a:Nat->Nat->K):∀(k i j:Nat),elim S a k i j=S.add (a i j) (S.cx (λl=>S.mul (a i l) (elim S a k l j)) k)
 |0,i,j=>(add_zero _).symm
 | k+1,i,j=>by
  have b:=N5 a k;show S.add (elim S a k i j) _=S.add (a i j) (S.add (S.cx _ k) (S.mul (a i k) (elim S a (k+1) k j)));have d:S.cx (λl=>S.mul (a i l) (elim S a (k+1) l j)) k=S.add (S.cx (λl=>S.mul (a i l) (elim S a k l j)) k) (S.mul (S.cx (λl=>S.mul (a i l) (elim S a k l k)) k) (S.mul (S.star (elim S a k k k)) (elim S a k k j))):=by
   rw[<-ve,<-iJ];refine aI λl _=>?_;show S.mul (a i l) (S.add _ _)=_;rw[S.mul_add,S.mul_assoc,S.mul_assoc]
  have e:elim S a (k+1) k j=S.mul (S.star (elim S a k k k)) (elim S a k k j):=by
   show S.add (elim S a k k j) _=_;rw[S.mul_comm (elim S a k k k) _,S.mul_assoc];have h:=S.yT (elim S a k k k);have c:S.mul (S.add S.one (S.mul (elim S a k k k) (S.star (elim S a k k k)))) (elim S a k k j)=S.mul (S.star (elim S a k k k)) (elim S a k k j):=by rw[h]
   rw[add_mul,S.one_mul,S.mul_comm (elim S a k k k),S.mul_assoc]at c;exact c
  rw[d,e,S.add_assoc,<-S.add_assoc (a i j),<-b i j];congr 1;rw[<-add_mul,S.add_comm (S.cx _ _) (a i k),<-b i k,S.mul_assoc]
def vC(S:bh K)(a:Nat->Nat->K)(n:Nat)(c:Nat->K)(i:Nat):K:=S.add (c i) (S.cx (λj=>S.mul (elim S a n i j) (c j)) n)
theorem wW(a:Nat->Nat->K)(n:Nat)(c:Nat->K)(i:Nat):vC S a n c i=S.add (c i) (S.cx (λl=>S.mul (a i l) (vC S a n c l)) n):=by
 unfold vC;congr 1;have b:S.cx (λj=>S.mul (elim S a n i j) (c j)) n=S.add (S.cx (λj=>S.mul (a i j) (c j)) n) (S.cx (λj=>S.cx (λl=>S.mul (a i l) (S.mul (elim S a n l j) (c j))) n) n):=by
  rw[<-iJ];refine aI λj _=>?_;rw[N5 a n i j,add_mul,<-ve];congr 1;exact aI λl _=>S.mul_assoc _ _ _
 rw[b,zb,<-iJ];refine aI λl _=>?_;rw[S.mul_add,yZ]
theorem qV{f:Nat->K}(k:Nat):∀{n:Nat},k<=n->S.cx f n=S.add (S.cx f k) (S.cx (λi=>f (k+i)) (n-k))
 |0,h=>by
  obtain rfl:k=0:=by omega
  exact(S.zero_add _).symm
 | n+1,h=>by
  by_cases e:k=n+1
  ·subst e;rw[Nat.sub_self];exact(add_zero _).symm
  ·have a:k<=n:=by omega
   rw[show n+1-k=(n-k)+1 by omega];show S.add (S.cx f n) (f n)=S.add _ (S.add _ (f (k+(n-k))));rw[qV k a,S.add_assoc,show k+(n-k)=n by omega]
theorem N6(a:Nat->Nat->K){n:Nat}{c x:Nat->K}(o:∀i,i<n->S.le (S.add (c i) (S.cx (λj=>S.mul (a i j) (x j)) n)) (x i)):∀(k:Nat),k<=n->∀i,i<n->S.le (S.add (c i) (S.cx (λj=>S.mul (elim S a k i j) (if j<k then c j else x j)) n)) (x i)
 |0,_,i,l=>by
  have h:=o i l;exact h
 | k+1,y,i,l=>by
  have d:=N6 a o k (by omega);have p:k<n:=by omega
  have b:∀(g:Nat->K),S.cx g n=S.add (g k) (S.cx (λj=>if j=k then S.zero else g j) n):=λg=>by
   have w:∀m,S.cx g m=S.add (if k<m then g k else S.zero) (S.cx (λj=>if j=k then S.zero else g j) m):=λm=>by
    induction m with
    |zero=>rw[if_neg (Nat.not_lt_zero k)];exact(S.zero_add _).symm
    | succ m d=>
     show S.add (S.cx g m) (g m)=S.add _ (S.add (S.cx _ m) (if m=k then S.zero else g m));rw[d];by_cases e:m=k
     ·subst e;rw[if_neg (lt_irrefl m),if_pos (Nat.lt_succ_self m),if_pos rfl,S.zero_add,add_zero,S.add_comm]
     ·by_cases h:k<m
      ·rw[if_pos h,if_pos (by omega),if_neg e,S.add_assoc]
      ·rw[if_neg h,if_neg (by omega),if_neg e,S.add_assoc]
   grind
  let s:=S.star (elim S a k k k)
  let r:=S.add (c k) (S.cx (λj=>if j=k then S.zero else S.mul (elim S a k k j) (if j<k then c j else x j)) n)
  have t:S.le (S.mul s r) (x k):=by
   refine S.sw ?_;have h:=d k p;rw[b]at h;rw[if_neg (lt_irrefl k)]at h;refine S.le_trans (le_of_eq ?_) h;show S.add (S.add (c k) _) _=_;rw[S.add_assoc,S.add_comm (S.cx _ n)]
  have f:=d i l;rw[b]at f;rw[if_neg (lt_irrefl k)]at f;refine S.le_trans (le_of_eq ?_) (S.le_trans (S.wz (S.le_refl (c i)) (S.wz (S.HE (elim S a k i k) t) (S.le_refl (S.cx (λj=>if j=k then S.zero else S.mul (elim S a k i j) (if j<k then c j else x j)) n)))) f);congr 1;rw[b];rw[if_pos (Nat.lt_succ_self k)];have q:S.mul (elim S a (k+1) i k) (c k)=S.mul (elim S a k i k) (S.mul s (c k)):=by
   show S.mul (S.add _ _) _=_;rw[VK,S.mul_assoc]
  have v:S.mul (elim S a k i k) (S.mul s r)=S.add (S.mul (elim S a k i k) (S.mul s (c k))) (S.cx (λj=>if j=k then S.zero else S.mul (S.mul (S.mul (elim S a k i k) s) (elim S a k k j)) (if j<k then c j else x j)) n):=by
   show S.mul _ (S.mul s (S.add _ _))=_;rw[S.mul_add,S.mul_add];congr 1;rw[<-S.mul_assoc,<-yZ];refine aI λj _=>?_;by_cases e:j=k
   ·rw[if_pos e,if_pos e,mul_zero]
   ·rw[if_neg e,if_neg e,S.mul_assoc (S.mul _ s)]
  rw[q,v,S.add_assoc,<-iJ];congr 1;refine aI λj _=>?_;by_cases e:j=k
  ·rw[if_pos e,if_pos e,if_pos e,S.zero_add]
  ·rw[if_neg e,if_neg e,if_neg e];have u:(if j<k+1 then c j else x j)=if j<k then c j else x j:=by
    by_cases h:j<k
    ·grind
    ·grind
   rw[u];show S.mul (S.add _ _) _=_;rw[add_mul,S.add_comm]
theorem uY(a:Nat->Nat->K){n:Nat}{c x:Nat->K}(b:∀i,i<n->S.le (S.add (c i) (S.cx (λj=>S.mul (a i j) (x j)) n)) (x i)){i:Nat}(d:i<n):S.le (vC S a n c i) (x i):=by
 refine S.le_trans (le_of_eq ?_) (N6 a b n (Nat.le_refl _) i d)
 simp_all[aI,vC]
end bh
end
end Go.Num
end
section
namespace Go.Num
inductive s7 where
 |fin (q:Rat)
 |inf
 |low
namespace s7
def add:s7->s7->s7
 |low,_=>low
 |_,low=>low
 |inf,b=>b
 |a,inf=>a
 |fin p,fin q=>fin (if p<=q then p else q)
def mul:s7->s7->s7
 |inf,_=>inf
 |_,inf=>inf
 |low,_=>low
 |_,low=>low
 |fin p,fin q=>fin (p+q)
def star:s7->s7
 |inf=>fin 0
 |low=>low
 |fin p=>if 0<=p then fin 0 else low
def le:s7->s7->Prop
 |inf,_=>True
 |_,low=>True
 |fin p,fin q=>q<=p
 |_,_=>False
def S:bh s7 where
 zero:=inf
 one:=fin 0
 add:=add
 mul:=mul
 star:=star
 le:=le
 add_assoc a b c:=by cases a<;>cases b<;>cases c<;>simp only[add]<;>(try rfl)<;>(grind)
 add_comm a b:=by cases a<;>cases b<;>simp only[add]<;>(grind)
 zero_add a:=by cases a<;>rfl
 mul_assoc a b c:=by cases a<;>cases b<;>cases c<;>simp only[mul]<;>(grind)
 mul_comm a b:=by cases a<;>cases b<;>simp only[mul]<;>(grind)
 one_mul a:=by cases a<;>simp only[mul]<;>(grind)
 zero_mul a:=by rfl
 mul_add a b c:=by cases a<;>cases b<;>cases c<;>simp only[mul,add]<;>(grind)
 le_refl a:=by cases a<;>simp only[le]<;>grind
 le_trans {a b c} e f:=by cases a<;>cases b<;>cases c<;>simp only[le]at*<;>grind
 B2 {a b} e f:=by cases a<;>cases b<;>simp only[le]at*<;>grind
 zero_le a:=by cases a<;>trivial
 wz {a b c d} e f:=by cases a<;>cases b<;>cases c<;>cases d<;>simp only[le,add]at*<;>grind
 HE {a b} c h:=by cases a<;>cases b<;>cases c<;>simp only[le,mul]at*<;>grind
 yT a:=by
  cases a with
  |fin p=>grind[star,mul,add]
  |inf=>rfl
  |low=>rfl
 sw {a b x} h:=by
  cases a with
  |fin p=>
   simp only[star];split<;>cases b<;>cases x<;>simp only[mul,add,le]at*<;>grind
  |inf=>cases b<;>cases x<;>simp only[star,mul,add,le]at*<;>grind
  |low=>cases b<;>cases x<;>simp only[star,mul,add,le]at*<;>grind
end s7
end Go.Num
namespace Go.Num
inductive ga where
 |fin (q:Rat) (h:0<=q)
 |inf
namespace ga
theorem ext{p q:Rat}{h:0<=p}{a:0<=q}(e:p=q):fin p h=fin q a:=by grind
def mul:ga->ga->ga
 |fin p b,fin q a=>fin (p*q) (Rat.mul_nonneg b a)
 |fin p b,inf=>if p=0 then fin 0 (by grind)else inf
 |inf,fin q a=>if q=0 then fin 0 (by grind)else inf
 |inf,inf=>inf
def add:ga->ga->ga
 |fin p b,fin q a=>fin (p+q) (by grind)
 |_,_=>inf
def le:ga->ga->Prop
 |_,inf=>True
 |fin p _,fin q _=>p<=q
 |inf,fin _ _=>False
theorem inv_pos{p:Rat}(h:p<1):0<=(1-p)⁻¹:=by grind[Rat.inv_pos]
def star:ga->ga
 |inf=>inf
 |fin p _=>if h:p<1 then fin (1-p)⁻¹ (inv_pos h)else inf
theorem aeZ{p q:Rat}:p*q=0↔p=0\/q=0:=by grind
theorem Mm(a b c:ga):mul (mul a b) c=mul a (mul b c):=by
 cases a with
 | fin p f=>
  cases b with
  |fin q e=>
   cases c with
   |fin r d=>exact ext (Rat.mul_assoc p q r)
   |inf=>grind[mul]
  |inf=>
   cases c with
   |fin r d=>grind[mul]
   |inf=>grind[mul]
 | inf=>
  cases b with
  |fin q e=>
   cases c with
   |fin r d=>grind[mul]
   |inf=>grind[mul]
  |inf=>
   cases c with
   |fin r d=>grind[mul]
   |inf=>rfl
theorem F6(a b:ga):mul a b=mul b a:=by
 cases a<;>cases b<;>simp only[mul]
 simp[Rat.mul_comm]
theorem Ut(a:ga):mul (fin 1 (by grind)) a=a:=by
 cases a with
 |fin p b=>exact ext (Rat.one_mul p)
 |inf=>rfl
theorem AP(a:ga):mul (fin 0 (by grind)) a=fin 0 (by grind):=by
 cases a with
 |fin p b=>exact ext (Rat.zero_mul p)
 |inf=>rfl
theorem Um(a b c:ga):mul a (add b c)=add (mul a b) (mul a c):=by
 cases a with
 |fin p e=>
  cases b<;>cases c<;>simp only[mul,add]
  ·exact ext (Rat.mul_add _ _ _)
  all_goals grind
 | inf=>
  cases b with
  |fin q d=>
   cases c with
   |fin r f=>grind[mul,add]
   |inf=>grind[mul,add]
  |inf=>rfl
theorem Of{a b:ga}(c:ga)(h:le a b):le (mul c a) (mul c b):=by
 cases c with
 | fin p i=>
  cases a with
  | fin q g=>
   cases b with
   |fin r d=>exact Rat.mul_le_mul_of_nonneg_left h i
   |inf=>
    simp only[mul];by_cases e:p=0
    all_goals simp_all[le]
  |inf=>
   cases b with
   |fin r d=>exact h.elim
   |inf=>grind[mul,le]
 | inf=>
  cases a with
  | fin q g=>
   cases b with
   | fin r d=>
    have h:q<=r:=h;simp only[mul];by_cases f:r=0
    ·have:q=0:=by grind
     simp[f,this,le]
    simp_all[le]
   |inf=>simp[mul,le]
  |inf=>
   cases b with
   |fin r d=>exact h.elim
   |inf=>simp[mul,le]
theorem inv_eq{p:Rat}(h:p<1):1+p*(1-p)⁻¹=(1-p)⁻¹:=by grind
theorem PR{p b x:Rat}(h:p<1)(e:b+p*x<=x):(1-p)⁻¹*b<=x:=by
 have a:(1-p)⁻¹*(1-p)=1:=Rat.inv_mul_cancel _ (by grind);have c:b<=(1-p)*x:=by grind
 have d:=Rat.mul_le_mul_of_nonneg_left c (inv_pos h);have f:(1-p)⁻¹*((1-p)*x)=x:=by rw[<-Rat.mul_assoc,a,Rat.one_mul]
 grind
def S:bh ga where
 zero:=fin 0 (by grind)
 one:=fin 1 (by grind)
 add:=add
 mul:=mul
 star:=star
 le:=le
 add_assoc a b c:=by
  cases a<;>cases b<;>cases c<;>simp only[add]
  grind
 add_comm a b:=by
  cases a<;>cases b<;>simp only[add]
  grind
 zero_add a:=by
  cases a with
  |fin p i=>exact ext (Rat.zero_add p)
  |inf=>rfl
 mul_assoc:=Mm
 mul_comm:=F6
 one_mul:=Ut
 zero_mul:=AP
 mul_add:=Um
 le_refl a:=by cases a<;>simp only[le]<;>grind
 le_trans {a b c} f g:=by cases a<;>cases b<;>cases c<;>simp only[le]at*<;>grind
 B2 {a b} f g:=by
  cases a<;>cases b<;>simp only[le]at*
  grind
 zero_le a:=by cases a<;>simp only[le]<;>assumption
 wz {a b c d} f g:=by cases a<;>cases b<;>cases c<;>cases d<;>simp only[le,add]at*<;>grind
 HE {a b} c h:=Of c h
 yT a:=by
  cases a with
  |fin p i=>
   simp only[star];split
   ·next h=>exact ext (inv_eq h)
   grind[mul,add]
  |inf=>rfl
 sw {a b x} h:=by
  cases x with
  |inf=>grind[le]
  | fin r j=>
   cases b with
   |inf=>exact h.elim
   | fin q k=>
    cases a with
    | fin p i=>
     have h:q+p*r<=r:=h;simp only[star];split
     ·next f=>exact PR f h
     ·next f=>
      have g:r<=p*r:=by
       have:=Rat.mul_le_mul_of_nonneg_right (show(1:Rat)<=p by grind) j
       grind
      grind[mul,le]
    | inf=>
     simp only[star,mul]at*;by_cases e:r=0
     ·subst e;simp only[if_pos rfl]at h;have h:q+0<=0:=h
      grind[le]
     ·rw[if_neg e]at h;exact h.elim
def max:ga->ga->ga
 |fin p b,fin q a=>fin (if p<=q then q else p) (by grind)
 |_,_=>inf
def um:ga->ga
 |inf=>inf
 |fin p _=>if p<=1 then fin 1 (by grind)else inf
theorem Od{a b:ga}(h:le a b):max a b=b:=by
 cases a<;>cases b<;>simp only[le,max]at*
 grind
theorem Uh{a b:ga}(h:le b a):max a b=a:=by
 cases a<;>cases b<;>simp only[le,max]at*
 grind
theorem Wm(a b:ga):le a b\/le b a:=by cases a<;>cases b<;>simp only[le]<;>grind
def V:bh ga:={ S with
 add:=max
 star:=um
 add_assoc:=λa b c=>by cases a<;>cases b<;>cases c<;>simp only[max]<;>exact ext (by grind)
 add_comm:=λa b=>by cases a<;>cases b<;>simp only[max]<;>exact ext (by grind)
 zero_add:=λa=>Od (S.zero_le a)
 mul_add:=λa b c=>by
  show mul a (max b c)=max (mul a b) (mul a c)
  grind[Wm,Od,Of,Uh]
 wz:=λ{a b c d} i m=>by cases a<;>cases b<;>cases c<;>cases d<;>simp only[S,le,max]at*<;>grind
 yT:=λa=>by
  show max (fin 1 (by grind)) (mul a (um a))=um a
  cases a with
  |fin p k=>
   simp only[um];split
   ·next h=>exact ext (by grind)
   grind[mul,max]
  |inf=>rfl
 sw:=λ{a b x} h=>by
  have h:le (max b (mul a x)) x:=h;show le (mul (um a) b) x;have g:le b x:=by
   refine S.le_trans (?_:le b (max b (mul a x))) h;rcases Wm b (mul a x)with e|e
   ·grind[Od]
   ·rw[Uh e];exact S.le_refl b
  have f:le (mul a x) x:=by
   refine S.le_trans (?_:le (mul a x) (max b (mul a x))) h;rcases Wm b (mul a x)with e|e
   ·rw[Od e];exact S.le_refl _
   ·grind[Uh]
  cases x with
  |inf=>grind[le]
  | fin r o=>
   cases b with
   |inf=>exact g.elim
   | fin q l=>
    have g:q<=r:=g
    cases a with
    | fin p k=>
     have f:p*r<=r:=f;simp only[um];split
     ·next i=>
      show 1*q<=r
      grind
     ·next i=>
      have:r=0:=by
       refine Classical.byContradiction λc=>?_;have j:0<r:=by grind
       have n:=Rat.mul_lt_mul_of_pos_right (show(1:Rat)<p by grind) j
       grind
      grind[mul]
    |inf=>
     simp only[mul]at f;by_cases e:r=0
     ·grind[um,mul]
     ·rw[if_neg e]at f;exact f.elim }
end ga
end Go.Num
end
section
namespace Go.Num
variable{z:Int}
abbrev dj:List UInt8:=[105,110,102]
abbrev ij:List UInt8:=[45,105,110,102]
def aM(b:Int)(a:List UInt8):Bool:=decide (1<=b/\b<=3)&&(a==[105,110,102]||a==[45,105,110,102]&&b==1||ay a&&(b==1||decide (0<=dc a [48])))
def bL(a:Int):List UInt8:=if a=1 then dj else[48]
def sS(a:Int):List UInt8:=if a=1 then[48]else[49]
def dw(a b:List UInt8):Int:=if a=b then 0 else if a=ij\/b=dj then -1 else if a=dj\/b=ij then 1 else dc a b
def GY(c:Int)(a b:List UInt8):Int:=if c=1 then dw a b else dw b a
def eK(c:Int)(a b:List UInt8):Option (List UInt8):=if c≠2 then some (if GY c b a<0 then b else a)else if a=dj\/b=dj then some dj else qf a b
def dq(c:Int)(a b:List UInt8):Option (List UInt8):=if a=bL c\/b=bL c then some (bL c)else if a=dj\/b=dj then some dj else if a=ij\/b=ij then some ij else if c=1 then qf a b else Cv a b
def lN(b:Int)(a:List UInt8):Option (List UInt8):=if b=1 then(if dw a [48]>=0 then some [48]else some ij)else if b=3 then(if dw a [49]<=0 then some [49]else some dj)else if dw a [49]>=0 then some dj else match qf [49] (qg a)with
 |some d=>G0 [49] d
 |none=>none
def Cq(a:List UInt8):s7:=if a=dj then .inf else if a=ij then .low else .fin (bg a)
noncomputable def kX(a:List UInt8):ga:=if a=dj then .inf else if h:0<=bg a then .fin (bg a) h else .inf
structure sP{K:Type}(S:bh K)(dec:List UInt8->K)(kind:Int):Prop where
 zero:dec (bL kind)=S.zero
 one:dec (sS kind)=S.one
 inj:∀{a b:List UInt8},aM kind a=true->aM kind b=true->dec a=dec b->a=b
 plus:∀{a b c:List UInt8},aM kind a=true->aM kind b=true->eK kind a b=some c->aM kind c=true/\dec c=S.add (dec a) (dec b)
 times:∀{a b c:List UInt8},aM kind a=true->aM kind b=true->dq kind a b=some c->aM kind c=true/\dec c=S.mul (dec a) (dec b)
 star:∀{a c:List UInt8},aM kind a=true->lN kind a=some c->aM kind c=true/\dec c=S.star (dec a)
theorem fC:ay [49]=true:=by decide
theorem jv:bg [48]=0:=by rfl
theorem kZ:bg [49]=1:=by rfl
theorem cE{a:List UInt8}(h:ay a=true):a≠dj/\a≠ij:=by
 constructor<;>intro e<;>rw[e]at h<;>exact absurd h (by decide)
theorem gG{a:List UInt8}(h:aM z a=true):z=1\/z=2\/z=3:=by
 unfold aM at h
 grind
theorem mW{a:List UInt8}:aM 1 a=true↔a=dj\/a=ij\/ay a=true:=by simp_all[or_assoc,aM]
theorem Sc{a:List UInt8}(h:ay a=true):0<=dc a [48]↔0<=bg a:=by
 have:=(AQ h fw).1
 grind[jv]
theorem iq(d:z=2\/z=3){a:List UInt8}:aM z a=true↔a=dj\/(ay a=true/\0<=bg a):=by
 have b:decide (1<=z/\z<=3)=true:=by simp;omega
 have c:(z==1)=false:=by rcases d with rfl|rfl<;>rfl
 unfold aM;rw[b,c,Bool.true_and,Bool.and_false,Bool.or_false,Bool.false_or,Bool.or_eq_true,Bool.and_eq_true,beq_iff_eq,decide_eq_true_eq]
 grind[Sc]
theorem dp{a:List UInt8}(h:ay a=true):Cq a = .fin (bg a):=by simp_all[cE,Cq]
theorem oL:Cq dj = .inf:=by rfl
theorem mq:Cq ij = .low:=by rfl
theorem dh{a:List UInt8}(h:ay a=true)(b:0<=bg a):kX a = .fin (bg a) b:=by simp_all[cE,kX]
theorem js:kX dj = .inf:=by rfl
theorem q9{a b:List UInt8}(d:ay a=true)(c:ay b=true):(dw a b<0↔bg a<bg b)/\(dw a b=0↔bg a=bg b):=by
 obtain⟨f,g⟩:=AQ d c;unfold dw;by_cases e:a=b
 all_goals simp_all[cE]
theorem zr{a b:List UInt8}(d:ay a=true)(c:ay b=true):dw a b>=0↔bg b<=bg a:=by
 have:=(q9 d c).1
 grind
theorem OQ{a b:List UInt8}(d:ay a=true)(c:ay b=true):dw a b<=0↔bg a<=bg b:=by
 obtain⟨e,f⟩:=q9 d c
 grind
theorem aaq:sP s7.S Cq 1 where
 zero:=oL
 one:=by rfl
 inj:=λ{a b} d f e=>by grind[mW,oL,mq,dp,wo]
 plus:=λ{a b c} d f e=>by
  have e:some (if dw b a<0 then b else a)=some c:=e;obtain rfl:=oI e;refine⟨by grind,?_⟩;rcases mW.1 d with rfl|rfl|d<;>rcases mW.1 f with rfl|rfl|f
  ·rfl
  ·rfl
  ·have:dw b dj = -1:=by unfold dw;rw[if_neg (cE f).1,if_pos (.inr rfl)]
   rw[this,if_pos (by omega),oL,dp f];rfl
  ·rfl
  ·rfl
  ·have:dw b ij=1:=by unfold dw;rw[if_neg (cE f).2,if_neg (λc=>c.elim (cE f).2 (by decide)),if_pos (.inr rfl)]
   rw[this,if_neg (by omega),mq,dp f];rfl
  ·have:dw dj a=1:=by unfold dw;rw[if_neg (λe=>(cE d).1 e.symm),if_neg (λc=>c.elim (by decide) (cE d).1),if_pos (.inl rfl)]
   rw[this,if_neg (by omega),oL,dp d];rfl
  ·have:dw ij a = -1:=by unfold dw;rw[if_neg (λe=>(cE d).2 e.symm),if_pos (.inl rfl)]
   rw[this,if_pos (by omega),mq,dp d];rfl
  ·have h:=(q9 f d).1;rw[dp d,dp f];show _=s7.fin (if bg a<=bg b then bg a else bg b);by_cases c:dw b a<0
   ·rw[if_pos c,dp f,if_neg (Rat.not_le.2 (h.1 c))]
   ·rw[if_neg c,dp d,if_pos (Rat.not_lt.1 λx=>c (h.2 x))]
 times:=λ{a b c} d f e=>by
  unfold dq at e;rw[show bL 1=dj from rfl]at e;rcases mW.1 d with rfl|rfl|d
  ·rw[if_pos (.inl rfl)]at e;obtain rfl:=oI e;refine⟨d,?_⟩;rfl
  ·rcases mW.1 f with rfl|rfl|f
   ·rw[if_pos (.inr rfl)]at e;obtain rfl:=oI e;exact⟨f,by rfl⟩
   ·rw[if_neg (by decide),if_neg (by decide),if_pos (.inl rfl)]at e;obtain rfl:=oI e;exact⟨f,by rfl⟩
   ·rw[if_neg (λc=>c.elim (by decide) (cE f).1),if_neg (λc=>c.elim (by decide) (cE f).1),if_pos (.inl rfl)]at e;obtain rfl:=oI e;exact⟨d,by rw[mq,dp f];rfl⟩
  ·rcases mW.1 f with rfl|rfl|f
   ·rw[if_pos (.inr rfl)]at e;obtain rfl:=oI e;exact⟨f,by rw[oL,dp d];rfl⟩
   ·rw[if_neg (λc=>c.elim (cE d).1 (by decide)),if_neg (λc=>c.elim (cE d).1 (by decide)),if_pos (.inr rfl)]at e;obtain rfl:=oI e;exact⟨f,by rw[mq,dp d];rfl⟩
   ·rw[if_neg (λc=>c.elim (cE d).1 (cE f).1),if_neg (λc=>c.elim (cE d).1 (cE f).1),if_neg (λc=>c.elim (cE d).2 (cE f).2),if_pos rfl]at e;obtain⟨i,j⟩:=pH d f e;exact⟨mW.2 (.inr (.inr i)),by rw[dp d,dp f,dp i,j];rfl⟩
 star:=λ{a c} d e=>by
  unfold lN at e;rw[if_pos rfl]at e;rcases mW.1 d with rfl|rfl|d
  ·rw[if_pos (by decide)]at e;obtain rfl:=oI e;exact⟨by decide,by rfl⟩
  ·rw[if_neg (by decide)]at e;obtain rfl:=oI e;exact⟨by decide,by rfl⟩
  ·have h:=zr d fw;rw[jv]at h;rw[dp d];show _/\_=if 0<=bg a then s7.fin 0 else s7.low;by_cases g:dw a [48]>=0
   ·rw[if_pos g]at e;obtain rfl:=oI e;exact⟨by decide,by rw[if_pos (h.1 g),dp fw,jv]⟩
   ·rw[if_neg g]at e;obtain rfl:=oI e;exact⟨by decide,by rw[if_neg λx=>g (h.2 x),mq]⟩
theorem Co(f:z=2\/z=3){a b:List UInt8}(d:aM z a=true)(c:aM z b=true)(e:kX a=kX b):a=b:=by grind[iq,js,dh,wo]
theorem FA(a:z=2\/z=3):aM z dj=true:=by grind[iq]
theorem xh(g:z=2\/z=3){a b c:List UInt8}(j:aM z a=true)(k:aM z b=true)(e:dq z a b=some c):aM z c=true/\kX c=ga.mul (kX a) (kX b):=by
 have v:bL z=[48]:=by rcases g with rfl|rfl<;>rfl
 have t:¬z=1:=by omega
 have l:aM z [48]=true:=(iq g).2 (.inr ⟨fw,by rfl⟩);have r:kX [48] = .fin 0 Rat.le_refl:=by rw[dh fw (by rfl)];exact ga.ext jv
 unfold dq at e;rw[v]at e;have w:∀{x:List UInt8},ay x=true->x≠[48]->bg x≠0:=λs u e=>u (wo s fw (by rw[e,jv]));by_cases q:a=[48]
 ·subst q;rw[if_pos (.inl rfl)]at e;obtain rfl:=oI e;exact⟨l,by rw[r];simp[ga.AP]⟩
 by_cases o:b=[48]
 ·subst o;rw[if_pos (.inr rfl)]at e;obtain rfl:=oI e;exact⟨l,by rw[ga.F6,r];simp[ga.AP]⟩
 rw[if_neg (λx=>x.elim q o)]at e;rcases(iq g).1 j with rfl|⟨f,h⟩<;>rcases(iq g).1 k with rfl|⟨d,i⟩
 ·rw[if_pos (.inl rfl)]at e;obtain rfl:=oI e;exact⟨j,by rfl⟩
 ·rw[if_pos (.inl rfl)]at e;obtain rfl:=oI e;refine⟨j,?_⟩;rw[js,dh d i];show _=if bg b=0 then _ else _
  grind
 ·rw[if_pos (.inr rfl)]at e;obtain rfl:=oI e;refine⟨k,?_⟩;rw[js,dh f h];show _=if bg a=0 then _ else _
  grind
 ·rw[if_neg (λc=>c.elim (cE f).1 (cE d).1),if_neg (λc=>c.elim (cE f).2 (cE d).2),if_neg t]at e;obtain⟨n,m⟩:=IN f d e;have p:0<=bg c:=by rw[m];exact Rat.mul_nonneg h i
  refine⟨(iq g).2 (.inr ⟨n,p⟩),?_⟩;rw[dh f h,dh d i,dh n p];exact ga.ext m
theorem AR:kX [48]=ga.S.zero:=by rfl
theorem Cp:kX [49]=ga.S.one:=by rfl
theorem qH(b:z=2\/z=3){a:List UInt8}(h:ay a=true)(c:0<=bg a):aM z a=true:=by grind[iq]
theorem qG(a:z=2\/z=3):aM z [49]=true:=qH a fC (by rfl)
theorem aap:sP ga.S kX 2 where
 zero:=AR
 one:=Cp
 inj:=Co (.inl rfl)
 times:=xh (.inl rfl)
 plus:=λ{a b c} k o e=>by
  unfold eK at e;rw[if_neg (by decide)]at e;rcases(iq (.inl rfl)).1 k with rfl|⟨f,l⟩
  ·rw[if_pos (.inl rfl)]at e;obtain rfl:=oI e;exact⟨k,by rfl⟩
  rcases(iq (.inl rfl)).1 o with rfl|⟨m,q⟩
  ·rw[if_pos (.inr rfl)]at e;obtain rfl:=oI e;exact⟨o,by rw[js];cases kX a<;>rfl⟩
  rw[if_neg (λc=>c.elim (cE f).1 (cE m).1)]at e;obtain⟨j,i⟩:=pH f m e;have n:0<=bg c:=by rw[i];exact Rat.add_nonneg l q
  refine⟨qH (.inl rfl) j n,?_⟩;rw[dh f l,dh m q,dh j n];exact ga.ext i
 star:=λ{a c} k e=>by
  unfold lN at e;rw[if_neg (by decide),if_neg (by decide)]at e;rcases(iq (.inl rfl)).1 k with rfl|⟨f,l⟩
  ·rw[if_pos (by decide)]at e;obtain rfl:=oI e;exact⟨k,by rfl⟩
  have h:=zr f fC;rw[kZ]at h;rw[dh f l];show _/\_=if h:bg a<1 then ga.fin (1-bg a)⁻¹ _ else ga.inf;by_cases g:dw a [49]>=0
  ·rw[if_pos g]at e;obtain rfl:=oI e
   simp_all[FA,Rat.not_lt,js]
  ·rw[if_neg g]at e;have u:bg a<1:=Rat.not_le.1 λx=>g (h.2 x);rw[dif_pos u]
   cases p:qf [49] (qg a)with
   |none=>grind
   | some d=>
    rw[p]at e;dsimp only at e;obtain⟨s,t⟩:=uC f;obtain⟨j,i⟩:=pH fC s p;rw[t,kZ]at i;have r:bg d=1-bg a:=by rw[i,Rat.sub_eq_add_neg]
    have v:val (numOf d)≠0:=λe=>by
     have:=(aY.1 j).wM;rw[e,ri]at this;have:=Rat.num_eq_zero.1 this;rw[r]at this
     grind
    obtain⟨n,w⟩:=IH fC j v e;rw[kZ,Rat.one_mul,r]at w
    grind[qH,dh]
theorem aar:sP ga.V kX 3 where
 zero:=AR
 one:=Cp
 inj:=Co (.inr rfl)
 times:=xh (.inr rfl)
 plus:=λ{a b c} j l e=>by
  have e:some (if dw a b<0 then b else a)=some c:=e;obtain rfl:=oI e;refine⟨by grind,?_⟩;rcases(iq (.inr rfl)).1 j with rfl|⟨d,i⟩<;>rcases(iq (.inr rfl)).1 l with rfl|⟨f,k⟩
  ·rfl
  ·have:dw dj b=1:=by unfold dw;rw[if_neg (λe=>(cE f).1 e.symm),if_neg (λc=>c.elim (by decide) (cE f).1),if_pos (.inl rfl)]
   rw[this,if_neg (by omega),js];rfl
  ·have:dw a dj = -1:=by unfold dw;rw[if_neg (cE d).1,if_pos (.inr rfl)]
   rw[this,if_pos (by omega),js];cases kX a<;>rfl
  ·have h:=(q9 d f).1;rw[dh d i,dh f k];show _=ga.fin (if bg a<=bg b then bg b else bg a) _;by_cases c:dw a b<0
   ·rw[if_pos c,dh f k]
    grind
   ·rw[if_neg c,dh d i]
    grind
 star:=λ{a c} j e=>by
  unfold lN at e;rw[if_neg (by decide),if_pos rfl]at e;rcases(iq (.inr rfl)).1 j with rfl|⟨d,i⟩
  ·rw[if_neg (by decide)]at e;obtain rfl:=oI e;exact⟨j,by rfl⟩
  have h:=OQ d fC;rw[kZ]at h;rw[dh d i];show _/\_=if bg a<=1 then ga.fin 1 _ else ga.inf;by_cases g:dw a [49]<=0
  ·rw[if_pos g]at e;obtain rfl:=oI e;exact⟨qG (.inr rfl),by rw[if_pos (h.1 g),dh fC (by rw[kZ];decide)];rfl⟩
  ·rw[if_neg g]at e;obtain rfl:=oI e
   simp_all[FA,js]
theorem xl{kind:Int}(h:1<=kind/\kind<=3):∃(K:Type)(S:bh K)(a:List UInt8->K),sP S a kind:=by
 obtain rfl|rfl|rfl:kind=1\/kind=2\/kind=3:=by omega
 all_goals grind[aaq,aap,aar]
section
structure qe(α:Type) where
 zero:α
 one:α
 xX:α->Bool
 plus:α->α->Option α
 times:α->α->Option α
 star:α->Option α
def bd{β:Type}(f:β->Nat->Option β):Nat->Nat->β->Option β
 |0,_,b=>some b
 |k+1,i,b=>match f b i with
  |some a=>bd f k (i+1) a
  |none=>none
structure jq(α:Type) where
 i:Int
 o:Int
 w:α
 t:Nat
structure ID(α:Type) where
 fin:Option α
 arcs:List (jq α)
structure gj(α:Type) where
 lead:α
 start:Nat
 bK:List (ID α)
section
variable {α:Type} (O:qe α)
def gF(l:List α)(t:Nat)(a b:α):Option (List α):=match O.times a b with
 |none=>none
 |some p=>match O.plus (l.getD t O.zero) p with
  |none=>none
  |some s=>some (l.set t s)
def bw(n:Nat):List α:=List.replicate n O.zero
def cm:jq α:=⟨0,0,O.zero,0⟩
def dQ:ID α:=⟨none,[]⟩
def jS(i o:Int)(u:α)(a:List (jq α))(l:List α)(k:Nat):Option (List α):=
 if(a.getD k (cm O)).i≠i\/(a.getD k (cm O)).o≠o then some l else gF O l (a.getD k (cm O)).t u (a.getD k (cm O)).w
def qF(M:gj α)(v:List α)(i o:Int)(l:List α)(q:Nat):Option (List α):=
 if O.xX (v.getD q O.zero)then some l else bd (jS O i o (v.getD q O.zero) (M.bK.getD q dQ).arcs) (M.bK.getD q dQ).arcs.length 0 l
def kQ(M:gj α)(v:List α)(i o:Int):Option (List α):=bd (qF O M v i o) M.bK.length 0 (bw O M.bK.length)
def xp(a b:List α)(l:List α)(i:Nat):Option (List α):=match O.plus (a.getD i O.zero) (b.getD i O.zero)with
 |none=>none
 |some s=>some (l++[s])
def nD(a b:List α):Option (List α):=bd (xp O a b) a.length 0 []
def eZ(a:List (jq α))(l:List α)(k:Nat):Option (List α):=
 if(a.getD k (cm O)).i≠0\/(a.getD k (cm O)).o≠0 then some l else match O.plus (l.getD (a.getD k (cm O)).t O.zero) (a.getD k (cm O)).w with
  |none=>none
  |some s=>some (l.set (a.getD k (cm O)).t s)
def gP(M:gj α)(A:List (List α))(q:Nat):Option (List (List α)):=match bd (eZ O (M.bK.getD q dQ).arcs) (M.bK.getD q dQ).arcs.length 0 (bw O M.bK.length)with
 |none=>none
 |some r=>some (A++[r])
def oK(M:gj α):Bool:=M.bK.any λs=>s.arcs.any λa=>decide (a.i=0)&&decide (a.o=0)
def bU(B:List (List α))(i j:Nat):α:=(B.getD i []).getD j O.zero
def cz(B:List (List α))(s:α)(k i:Nat)(r:List α)(j:Nat):Option (List α):=
 if O.xX (bU O B i k)||O.xX (bU O B k j)then some (r++[bU O B i j])else match O.times (bU O B i k) s with
  |none=>none
  | some p=>match O.times p (bU O B k j)with
   |none=>none
   |some a=>match O.plus (bU O B i j) a with
    |none=>none
    |some c=>some (r++[c])
def iT(B:List (List α))(s:α)(k:Nat)(C:List (List α))(i:Nat):Option (List (List α)):=match bd (cz O B s k i) B.length 0 []with
 |none=>none
 |some r=>some (C++[r])
def fo(B:List (List α))(k:Nat):Option (List (List α)):=match O.star (bU O B k k)with
 |none=>none
 |some s=>bd (iT O B s k) B.length 0 []
def nY(B:List (List α))(i:Nat):Option (List (List α)):=match O.plus O.one (bU O B i i)with
 |none=>none
 |some s=>some (B.set i ((B.getD i []).set i s))
def jR(A:List (List α)):Option (List (List α)):=match bd (fo O) A.length 0 A with
 |none=>none
 |some B=>bd (nY O) A.length 0 B
def dX(M:gj α):Option (Option (List (List α))):=match bd (gP O M) M.bK.length 0 []with
 |none=>none
 | some A=>if oK M then(if 60<M.bK.length then none else match jR O A with
   |none=>none
   |some B=>some (some B))else some none
def fN(v:List α)(B:List (List α))(q:Nat)(l:List α)(p:Nat):Option (List α):=
 if O.xX (v.getD q O.zero)||O.xX (bU O B q p)then some l else gF O l p (v.getD q O.zero) (bU O B q p)
def fX(v:List α):Option (List (List α))->Option (List α)
 |none=>some v
 |some B=>bd (λl q=>bd (fN O v B q) v.length 0 l) v.length 0 (bw O v.length)
def jP(M:gj α)(v:List α)(l:List α)(q:Nat):Option (List α):=match (M.bK.getD q dQ).fin with
 |none=>some l
 |some f=>gF O l 0 (v.getD q O.zero) f
def oM(M:gj α)(v:List α):Option α:=match bd (jP O M v) v.length 0 [O.zero]with
 |none=>none
 |some l=>some (l.getD 0 O.zero)
def dP(T:List (List (List α)))(i j:Nat):List α:=(T.getD i []).getD j []
def fp(T:List (List (List α)))(i j:Nat)(v:List α):List (List (List α)):=T.set i ((T.getD i []).set j v)
def bP(x:List Int)(i b:Nat):Int:=if b=1 then x.getD i 0 else 0
def oO(M:gj α)(x y:List Int)(v:List α)(i j:Nat)(T:List (List (List α)))(k:Nat):Option (List (List (List α))):=
 if x.length<i+k%2\/y.length<j+k/2 then some T else match kQ O M v (bP x i (k%2)) (bP y j (k/2))with
  |none=>none
  |some s=>match nD O (dP T (i+k%2) (j+k/2)) s with
   |none=>none
   |some r=>some (fp T (i+k%2) (j+k/2) r)
def mV(M:gj α)(B:Option (List (List α)))(x y:List Int)(i:Nat)(T:List (List (List α)))(j:Nat):Option (List (List (List α))):=match fX O (dP T i j) B with
 |none=>none
 |some v=>bd (oO O M x y v i j) 3 1 (fp T i j v)
def rh(M:gj α)(B:Option (List (List α)))(x y:List Int)(T:List (List (List α)))(i:Nat):Option (List (List (List α))):=bd (mV O M B x y i) (y.length+1) 0 T
def kh(M:gj α)(x y:List Int):List (List (List α)):=fp (List.replicate (x.length+1) (List.replicate (y.length+1) (bw O M.bK.length))) 0 0 ((bw O M.bK.length).set M.start M.lead)
def eE(M:gj α)(x y:List Int):Option α:=match dX O M with
 |none=>none
 |some B=>match bd (rh O M B x y) (x.length+1) 0 (kh O M x y)with
  |none=>none
  |some T=>oM O M (dP T x.length y.length)
end
structure GU{α β:Type}(O:qe α)(P:qe β)(V:α->Prop)(h:α->β):Prop where
 zero:V O.zero/\h O.zero=P.zero
 one:V O.one/\h O.one=P.one
 xX:∀{a},V a->P.xX (h a)=O.xX a
 plus:∀{a b c},V a->V b->O.plus a b=some c->V c/\P.plus (h a) (h b)=some (h c)
 times:∀{a b c},V a->V b->O.times a b=some c->V c/\P.times (h a) (h b)=some (h c)
 star:∀{a c},V a->O.star a=some c->V c/\P.star (h a)=some (h c)
theorem eD{β j:Type}{H:β->j}{VB:β->Prop}{f:β->Nat->Option β}{g:j->Nat->Option j}(l:∀b i a,VB b->f b i=some a->VB a/\g (H b) i=some (H a)):∀(k i:Nat)(b a:β),VB b->bd f k i b=some a->VB a/\bd g k i (H b)=some (H a)
 |0,i,b,a,d,h=>by
  obtain rfl:=oI h;exact⟨d,rfl⟩
 | k+1,i,b,a,d,h=>by
  unfold bd at h⊢
  cases e:f b i with
  |none=>grind
  |some c=>
   rw[e]at h;obtain⟨m,n⟩:=l b i c d e;rw[n];exact eD l k (i+1) c a m h
def mapA{α β:Type}(h:α->β)(a:jq α):jq β:=⟨a.i,a.o,h a.w,a.t⟩
def nz{α β:Type}(h:α->β)(s:ID α):ID β:=⟨s.fin.map h,s.arcs.map (mapA h)⟩
def mapM{α β:Type}(h:α->β)(M:gj α):gj β:=⟨h M.lead,M.start,M.bK.map (nz h)⟩
def bq{α:Type}(V:α->Prop)(l:List α):Prop:=∀a∈l,V a
structure Ci{α:Type}(V:α->Prop)(M:gj α):Prop where
 lead:V M.lead
 fin:∀s∈M.bK,∀f,s.fin=some f->V f
 w:∀s∈M.bK,∀a∈s.arcs,V a.w
section
variable {α β:Type} {O:qe α} {P:qe β} {V:α->Prop} {h:α->β}
theorem tj(l:List α)(i:Nat)(d:α):(l.map h).getD i (h d)=h (l.getD i d):=by grind
theorem oN{l:List α}(b:bq V l){d:α}(c:V d)(i:Nat):V (l.getD i d):=by
 rw[gD]
 cases e:l[i]? with
 |none=>grind
 |some a=>exact b a (List.mem_of_getElem? e)
theorem bq.set{l:List α}(b:bq V l){a:α}(d:V a)(i:Nat):bq V (l.set i a):=λx c=>by
 rcases List.mem_or_eq_of_mem_set c with h|h
 ·exact b x h
 grind
theorem bq.snoc{l:List α}(b:bq V l){a:α}(d:V a):bq V (l++[a]):=λx c=>by
 rcases mem_append.1 c with h|h
 ·exact b x h
 grind
theorem bq.rep{a:α}(c:V a)(n:Nat):bq V (List.replicate n a):=λx b=>by grind
variable (H:GU O P V h)
include H
theorem GU.getD(l:List α)(i:Nat):(l.map h).getD i P.zero=h (l.getD i O.zero):=by rw[<-H.zero.2];grind
theorem GU.at_{l:List α}(a:bq V l)(i:Nat):V (l.getD i O.zero):=oN a H.zero.1 i
theorem wb{l c:List α}{a b:α}{t:Nat}(f:bq V l)(n:V a)(i:V b)(e:gF O l t a b=some c):bq V c/\gF P (l.map h) t (h a) (h b)=some (c.map h):=by
 unfold gF at e⊢
 cases d:O.times a b with
 |none=>grind
 | some p=>
  rw[d]at e;obtain⟨k,m⟩:=H.times n i d;rw[m];dsimp only at e⊢;rw[H.getD]
  cases g:O.plus (l.getD t O.zero) p with
  |none=>grind
  |some s=>
   rw[g]at e;obtain⟨j,o⟩:=H.plus (H.at_ f t) k g;obtain rfl:=oI e;rw[o];exact⟨f.set j t,by simp⟩
theorem Ck(a:List (jq α))(k:Nat):(a.map (mapA h)).getD k (cm P)=mapA h (a.getD k (cm O)):=by
 have:cm P=mapA h (cm O):=by unfold cm mapA;rw[H.zero.2]
 grind
theorem NK{b:List (jq α)}(c:∀a∈b,V a.w)(k:Nat):V (b.getD k (cm O)).w:=
 oN (V:=λ(a:jq α)=>V a.w) c (by unfold cm;exact H.zero.1) k
theorem EH{i o:Int}{u:α}{b:List (jq α)}(g:V u)(j:∀a∈b,V a.w)(l:List α)(k:Nat)(d:List α)(f:bq V l)(e:jS O i o u b l k=some d):bq V d/\jS P i o (h u) (b.map (mapA h)) (l.map h) k=some (d.map h):=by
 unfold jS at e⊢;rw[Ck H];show bq V d/\(if(b.getD k (cm O)).i≠i\/(b.getD k (cm O)).o≠o then some (l.map h)else gF P (l.map h) (b.getD k (cm O)).t (h u) (h (b.getD k (cm O)).w))=some (d.map h);split at e
 ·grind
 ·next c=>rw[if_neg c];grind[wb,NK]
omit H in
theorem zv(M:gj α)(q:Nat):(mapM h M).bK.getD q dQ=nz h (M.bK.getD q dQ):=tj (h:=nz h) M.bK q dQ
omit H in
theorem tp{M:gj α}(q:Nat):M.bK.getD q dQ=dQ\/M.bK.getD q dQ∈M.bK:=by grind
omit H in
theorem Sf{M:gj α}(c:Ci V M)(q:Nat):∀a∈(M.bK.getD q dQ).arcs,V a.w:=λa b=>by
 rcases tp (M:=M) q with e|e
 ·rw[e]at b;cases b
 ·exact c.w _ e a b
omit H in
theorem Xf{M:gj α}(b:Ci V M)(q:Nat){f:α}(a:(M.bK.getD q dQ).fin=some f):V f:=by
 rcases tp (M:=M) q with e|e
 ·rw[e]at a;cases a
 ·exact b.fin _ e f a
theorem pJ(n:Nat):bq V (bw O n)/\(bw O n).map h=bw P n:=⟨bq.rep H.zero.1 n,by unfold bw;rw[List.map_replicate,H.zero.2]⟩
theorem IW{M:gj α}(j:Ci V M){v b:List α}{i o:Int}(d:bq V v)(e:kQ O M v i o=some b):bq V b/\kQ P (mapM h M) (v.map h) i o=some (b.map h):=by
 unfold kQ at e⊢;have f:=pJ H M.bK.length;have a:(mapM h M).bK.length=M.bK.length:=lM _;rw[a,<-f.2];refine eD (VB:=bq V) (H:=List.map h) (λl q k g e=>?_) _ _ _ _ f.1 e;unfold qF at e⊢;rw[H.getD,zv,H.xX (H.at_ d q)];split at e
 ·grind
 ·next c=>
  rw[if_neg c];have a:(nz h (M.bK.getD q dQ)).arcs.length=(M.bK.getD q dQ).arcs.length:=lM _;rw[a];exact eD (VB:=bq V) (H:=List.map h) (EH H (H.at_ d q) (Sf j q)) _ _ _ _ g e
theorem Ly{a b c:List α}(k:bq V a)(f:bq V b)(e:nD O a b=some c):bq V c/\nD P (a.map h) (b.map h)=some (c.map h):=by
 unfold nD at e⊢;rw[lM];refine eD (VB:=bq V) (H:=List.map h) (λl q m g e=>?_) _ _ _ _ (λx n=>by grind) e;unfold xp at e⊢;rw[H.getD,H.getD]
 cases d:O.plus (a.getD q O.zero) (b.getD q O.zero)with
 |none=>grind
 |some s=>
  rw[d]at e;obtain⟨i,j⟩:=H.plus (H.at_ k q) (H.at_ f q) d;obtain rfl:=oI e;rw[j];exact⟨g.snoc i,by grind⟩
theorem oA(B:List (List α))(i j:Nat):bU P (B.map (List.map h)) i j=h (bU O B i j):=by
 unfold bU;have:(B.map (List.map h)).getD i []=(B.getD i []).map h:=tj (h:=List.map h) B i [];rw[this,H.getD]
theorem mU{B:List (List α)}(a:bq (bq V) B)(i j:Nat):V (bU O B i j):=H.at_ (oN a (λx b=>by grind) i) j
theorem G2{M:gj α}(vm:Ci V M){r:Option (List (List α))}(e:dX O M=some r):(∀B,r=some B->bq (bq V) B)/\dX P (mapM h M)=some (r.map (List.map (List.map h))):=by
 unfold dX at e⊢;have I:(mapM h M).bK.length=M.bK.length:=lM _;rw[I]
 cases J:bd (gP O M) M.bK.length 0 []with
 |none=>grind
 | some A=>
  rw[J]at e;obtain⟨h1,t⟩:=eD (VB:=bq (bq V)) (H:=List.map (List.map h)) (g:=gP P (mapM h M)) (λA q A' hA e=>by
   unfold gP at e⊢;have R:=pJ H M.bK.length;rw[zv,I,<-R.2];have K:(nz h (M.bK.getD q dQ)).arcs.length=(M.bK.getD q dQ).arcs.length:=lM _;rw[K]
   cases y:bd (eZ O (M.bK.getD q dQ).arcs) (M.bK.getD q dQ).arcs.length 0 (bw O M.bK.length)with
   |none=>rw[y]at e;cases e
   | some r=>
    rw[y]at e;obtain rfl:=oI e;obtain⟨Y,h4⟩:=eD (VB:=bq V) (H:=List.map h) (g:=eZ P (nz h (M.bK.getD q dQ)).arcs) (λl k l' o e=>by
     unfold eZ at e⊢;show _/\(if(((M.bK.getD q dQ).arcs.map (mapA h)).getD k (cm P)).i≠0\/(((M.bK.getD q dQ).arcs.map (mapA h)).getD k (cm P)).o≠0 then some (l.map h)else match P.plus ((l.map h).getD (((M.bK.getD q dQ).arcs.map (mapA h)).getD k (cm P)).t P.zero) (((M.bK.getD q dQ).arcs.map (mapA h)).getD k (cm P)).w with
      |none=>none
      |some s=>some ((l.map h).set (((M.bK.getD q dQ).arcs.map (mapA h)).getD k (cm P)).t s))=_
     rw[Ck H];have hw:=NK H (Sf vm q) k;generalize (M.bK.getD q dQ).arcs.getD k (cm O)=c at*;show _/\(if c.i≠0\/c.o≠0 then some (l.map h)else match P.plus ((l.map h).getD c.t P.zero) (h c.w)with
      |none=>none
      |some s=>some ((l.map h).set c.t s))=_
     split at e
     ·next g=>rw[if_pos g];obtain rfl:=oI e;exact⟨o,rfl⟩
     ·next g=>
      rw[if_neg g,H.getD]
      cases a:O.plus (l.getD c.t O.zero) c.w with
      |none=>rw[a]at e;cases e
      |some s=>
       rw[a]at e;obtain⟨F,z⟩:=H.plus (H.at_ o c.t) hw a;obtain rfl:=oI e;rw[z];exact⟨o.set F _,by rw[map_set]⟩) _ _ _ _ R.1 y
    rw[h4];exact⟨hA.snoc Y,by rw[map_append];rfl⟩) _ _ _ _ (λx d=>by cases d) J
  have t:bd (gP P (mapM h M)) M.bK.length 0 []=some (A.map (List.map h)):=t;rw[t];dsimp only at e⊢;have ha:oK (mapM h M)=oK M:=by
   unfold oK;show(M.bK.map (nz h)).any _=_;rw[List.any_map];congr 1;funext s;show((s.arcs.map (mapA h)).any _)=_;rw[List.any_map];rfl
  rw[ha];split at e
  ·next c=>
   rw[if_pos c];split at e
   ·cases e
   ·next c2=>
    rw[if_neg c2]
    cases a:jR O A with
    |none=>rw[a]at e;cases e
    | some B=>
     rw[a]at e;obtain rfl:=oI e;have m:bq (bq V) B/\jR P (A.map (List.map h))=some (B.map (List.map h)):=by
      unfold jR at a⊢;rw[lM]
      cases u:bd (fo O) A.length 0 A with
      |none=>rw[u]at a;cases a
      | some C=>
       rw[u]at a;obtain⟨F,z⟩:=eD (VB:=bq (bq V)) (H:=List.map (List.map h)) (g:=fo P) (λB k S b e=>by
        unfold fo at e⊢;rw[oA H,lM]
        cases E:O.star (bU O B k k)with
        |none=>rw[E]at e;cases e
        | some s=>
         rw[E]at e;obtain⟨h7,h8⟩:=H.star (mU H b k k) E;rw[h8];refine eD (VB:=bq (bq V)) (H:=List.map (List.map h)) (λC i C' W e=>?_) _ _ _ _ (λx d=>by cases d) e;unfold iT at e⊢;rw[lM]
         cases w:bd (cz O B s k i) B.length 0 []with
         |none=>rw[w]at e;cases e
         | some r=>
          rw[w]at e;obtain rfl:=oI e;obtain⟨h9,f⟩:=eD (VB:=bq V) (H:=List.map h) (g:=cz P (B.map (List.map h)) (h s) k i) (λr j r' T e=>by
           unfold cz at e⊢;rw[oA H,oA H,oA H,H.xX (mU H b i k),H.xX (mU H b k j)];split at e
           ·next g=>rw[if_pos g];obtain rfl:=oI e;exact⟨T.snoc (mU H b i j),by rw[map_append];rfl⟩
           ·next g=>
            rw[if_neg g]
            cases D:O.times (bU O B i k) s with
            |none=>rw[D]at e;cases e
            | some p=>
             rw[D]at e;obtain⟨Z,U⟩:=H.times (mU H b i k) h7 D;rw[U];dsimp only at e⊢
             cases n:O.times p (bU O B k j)with
             |none=>rw[n]at e;cases e
             | some X=>
              rw[n]at e;obtain⟨u3,u4⟩:=H.times Z (mU H b k j) n;rw[u4];dsimp only at e⊢
              cases v:O.plus (bU O B i j) X with
              |none=>rw[v]at e;cases e
              |some c=>
               rw[v]at e;obtain⟨u5,u6⟩:=H.plus (mU H b i j) u3 v;rw[u6];obtain rfl:=oI e;exact⟨T.snoc u5,by rw[map_append];rfl⟩) _ _ _ _ (λx d=>by cases d) w
          have f:bd (cz P (B.map (List.map h)) (h s) k i) B.length 0 []=some (r.map h):=f;rw[f];exact⟨W.snoc h9,by rw[map_append];rfl⟩) _ _ _ _ h1 u
       rw[z];dsimp only at a⊢;refine eD (VB:=bq (bq V)) (H:=List.map (List.map h)) (λB i S b e=>?_) _ _ _ _ F a;unfold nY at e⊢;rw[oA H,<-H.one.2]
       cases G:O.plus O.one (bU O B i i)with
       |none=>rw[G]at e;cases e
       |some s=>
        rw[G]at e;obtain⟨N,Q⟩:=H.plus H.one.1 (mU H b i i) G;rw[Q];obtain rfl:=oI e;have hg:(B.map (List.map h)).getD i []=(B.getD i []).map h:=tj (h:=List.map h) B i [];have L:bq V (B.getD i []):=oN b (λx d=>by cases d) i;exact⟨bq.set (V:=bq V) b (L.set N i) i,by rw[map_set,hg,map_set]⟩
     rw[m.2];exact⟨λS e=>by obtain rfl:=oI e;exact m.1,rfl⟩
  grind
theorem Lt{v d:List α}(b:bq V v){B:Option (List (List α))}(a:∀C,B=some C->bq (bq V) C)(e:fX O v B=some d):bq V d/\fX P (v.map h) (B.map (List.map (List.map h)))=some (d.map h):=by
 cases B with
 |none=>obtain rfl:=oI e;exact⟨b,rfl⟩
 |some B=>
  have a:=a B rfl;have i:=pJ H v.length;show _/\bd (λl q=>bd (fN P (v.map h) (B.map (List.map h)) q) (v.map h).length 0 l) (v.map h).length 0 (bw P (v.map h).length)=_;rw[lM,<-i.2];refine eD (VB:=bq V) (H:=List.map h) (λl q f c e=>?_) _ _ _ _ i.1 e;refine eD (VB:=bq V) (H:=List.map h) (λl p f c e=>?_) _ _ _ _ c e;unfold fN at e⊢;rw[H.getD,oA H,H.xX (H.at_ b q),H.xX (mU H a q p)];split at e
  ·grind
  ·next g=>rw[if_neg g];exact wb H c (H.at_ b q) (mU H a q p) e
theorem OS{M:gj α}(n:Ci V M){v:List α}{c:α}(i:bq V v)(e:oM O M v=some c):V c/\oM P (mapM h M) (v.map h)=some (h c):=by
 unfold oM at e⊢;rw[lM]
 cases b:bd (jP O M v) v.length 0 [O.zero]with
 |none=>grind
 | some l=>
  rw[b]at e;obtain rfl:=oI e;obtain⟨m,a⟩:=eD (VB:=bq V) (H:=List.map h) (g:=jP P (mapM h M) (v.map h)) (λl q o j e=>by
   unfold jP at e⊢;rw[zv,H.getD];show _/\(match (M.bK.getD q dQ).fin.map h with|none=>some (l.map h)|some f=>gF P (l.map h) 0 (h (v.getD q O.zero)) f)=_
   cases d:(M.bK.getD q dQ).fin with
   |none=>grind
   |some f=>rw[d]at e;exact wb H j (H.at_ i q) (Xf n q d) e) _ _ _ _ (λx k=>by rw[mem_singleton.1 k];exact H.zero.1) b
  have a:bd (jP P (mapM h M) (v.map h)) v.length 0 [h O.zero]=some (l.map h):=a;rw[H.zero.2]at a;rw[a];dsimp only;rw[H.getD];exact⟨H.at_ m 0,rfl⟩
omit H in
theorem zp(T:List (List (List α)))(i j:Nat):dP (T.map (List.map (List.map h))) i j=(dP T i j).map h:=by grind[dP]
omit H in
theorem wq(T:List (List (List α)))(i j:Nat)(v:List α):fp (T.map (List.map (List.map h))) i j (v.map h)=(fp T i j v).map (List.map (List.map h)):=by grind[map_set,fp]
omit H in
theorem GX{T:List (List (List α))}(b:bq (bq (bq V)) T)(i j:Nat):bq V (dP T i j):=
 oN (V:=bq V) (oN (V:=bq (bq V)) b (λx a=>by grind) i) (λx a=>by grind) j
omit H in
theorem Cy{T:List (List (List α))}(a:bq (bq (bq V)) T){v:List α}(b:bq V v)(i j:Nat):bq (bq (bq V)) (fp T i j v):=
 bq.set (V:=bq (bq V)) a (bq.set (V:=bq V) (oN (V:=bq (bq V)) a (λx c=>by grind) i) b j) i
theorem G8{M:gj α}(b:Ci V M){x y:List Int}{w:α}(e:eE O M x y=some w):V w/\eE P (mapM h M) x y=some (h w):=by
 unfold eE at e⊢
 cases m:dX O M with
 |none=>grind
 | some B=>
  rw[m]at e;obtain⟨A,C⟩:=G2 H b m;rw[C];dsimp only at e⊢;have f:=pJ H M.bK.length;have t:(mapM h M).bK.length=M.bK.length:=lM _;have u:bq (bq (bq V)) (kh O M x y)/\kh P (mapM h M) x y=(kh O M x y).map (List.map (List.map h)):=by
   unfold kh;refine⟨Cy (bq.rep (bq.rep f.1 _) _) (f.1.set b.lead _) 0 0,?_⟩;rw[<-wq,map_set,List.map_replicate,List.map_replicate,f.2,t];rfl
  cases o:bd (rh O M B x y) (x.length+1) 0 (kh O M x y)with
  |none=>grind
  | some T=>
   rw[o]at e;obtain⟨G,I⟩:=eD (VB:=bq (bq (bq V))) (H:=List.map (List.map (List.map h))) (g:=rh P (mapM h M) (B.map (List.map (List.map h))) x y) (λT i n a e=>by
    unfold rh at e⊢;refine eD (VB:=bq (bq (bq V))) (H:=List.map (List.map (List.map h))) (λT j n a e=>?_) _ _ _ _ a e;unfold mV at e⊢;rw[zp]
    cases c:fX O (dP T i j) B with
    |none=>rw[c]at e;cases e
    | some v=>
     rw[c]at e;obtain⟨q,F⟩:=Lt H (GX a i j) A c;rw[F];dsimp only at e⊢;rw[wq];refine eD (VB:=bq (bq (bq V))) (H:=List.map (List.map (List.map h))) (λT k n a e=>?_) _ _ _ _ (Cy a q i j) e;unfold oO at e⊢;split at e
     ·next g=>rw[if_pos g];obtain rfl:=oI e;exact⟨a,rfl⟩
     ·next g=>
      rw[if_neg g]
      cases d:kQ O M v (bP x i (k%2)) (bP y j (k/2))with
      |none=>rw[d]at e;cases e
      | some s=>
       rw[d]at e;obtain⟨D,z⟩:=IW H b q d;rw[z];dsimp only at e⊢;rw[zp]
       cases l:nD O (dP T (i+k%2) (j+k/2)) s with
       |none=>rw[l]at e;cases e
       |some r=>
        rw[l]at e;obtain⟨E,p⟩:=Ly H (GX a _ _) D l;rw[p];dsimp only at e⊢;obtain rfl:=oI e;exact⟨Cy a E _ _,by rw[wq]⟩) _ _ _ _ u.1 o
   grind[zp,OS,GX]
end
end
end Go.Num
end
section
namespace Go.Num
variable{n:Nat}
namespace bh
variable {K:Type} {S:bh K}
def dot(S:bh K)(u v:Nat->K)(n:Nat):K:=S.cx (λi=>S.mul (u i) (v i)) n
theorem Nh{a:Nat->Nat->K}{c x:Nat->K}(d:∀i,i<n->S.le (S.add (c i) (S.cx (λj=>S.mul (a i j) (x j)) n)) (x i))
  (e:∀y:Nat->K,(∀i,i<n->S.le (S.add (c i) (S.cx (λj=>S.mul (a i j) (y j)) n)) (y i))->∀i,i<n->S.le (x i) (y i)):∀i,i<n->x i=vC S a n c i:=
 λi b=>S.B2 (e _ (λj _=>le_of_eq (wW a n c j).symm) i b) (uY a d b)
theorem GB{a b:Nat->Nat->K}{c d:Nat->K}(f:∀i j,i<n->j<n->a i j=b i j)(g:∀i,i<n->c i=d i):∀i,i<n->vC S a n c i=vC S b n d i:=by
 refine Nh (λi e=>?_) λy h i e=>uY a (λi e=>?_) e
 all_goals grind[le_of_eq,wW,aI]
end bh
end Go.Num
end
section
namespace Go.Num
variable{p:List Int}
namespace bh
variable {K:Type} {S:bh K}
def fL{b:Type}(S:bh K)(f:b->K):List b->K
 |[]=>S.zero
 |a::l=>S.add (f a) (fL S f l)
theorem fs{b:Type}{f g:b->K}:∀{l:List b},(∀a∈l,f a=g a)->fL S f l=fL S g l
 |[],_=>rfl
 |a::l,h=>by
  show S.add _ _=S.add _ _;rw[h a (mem_cons_self ..),fs λx c=>h x (List.mem_cons_of_mem _ c)]
theorem D6{b:Type}(f g:b->K):∀l:List b,fL S (λa=>S.add (f a) (g a)) l=S.add (fL S f l) (fL S g l)
 |[]=>(S.zero_add _).symm
 |a::l=>by
  show S.add _ (fL S _ l)=S.add (S.add _ _) (S.add _ _);rw[D6 f g l,abW]
theorem yY{b:Type}(c:K)(f:b->K):∀l:List b,fL S (λa=>S.mul c (f a)) l=S.mul c (fL S f l)
 |[]=>(mul_zero c).symm
 |a::l=>by
  show S.add _ (fL S _ l)=S.mul c (S.add _ _);rw[yY c f l,S.mul_add]
theorem yX{c:Type}(f:c->K):∀l b:List c,fL S f (l++b)=S.add (fL S f l) (fL S f b)
 |[],b=>(S.zero_add _).symm
 |a::l,b=>by
  show S.add _ (fL S f (l++b))=S.add (S.add _ _) _;rw[yX f l b,S.add_assoc]
theorem qU{a c:Type}(g:c->a)(f:a->K):∀l:List c,fL S f (l.map g)=fL S (λb=>f (g b)) l
 |[]=>rfl
 |b::l=>by
  show S.add _ (fL S f (l.map g))=S.add _ _;rw[qU g f l]
theorem oE{b:Type}:∀l:List b,fL S (λ_=>S.zero) l=S.zero
 |[]=>rfl
 |a::l=>by
  show S.add _ (fL S _ l)=_;rw[oE l,S.zero_add]
end bh
structure q7(K:Type) where
 i:Int
 o:Int
 w:K
 t:Nat
structure ck(K:Type) where
 n:Nat
 fin:Nat->K
 arcs:Nat->List (q7 K)
def lJ(s:Int)(x:List Int):Option (List Int):=if s=0 then some x else match x with
 |[]=>none
 |c::r=>if c=s then some r else none
namespace ck
open bh
variable {K:Type} (S:bh K) (M:ck K)
def Gz(q p:Nat):K:=fL S (λa=>if a.i=0/\a.o=0/\a.t=p then a.w else S.zero) (M.arcs q)
def go(W:List Int->List Int->Nat->K)(x y:List Int)(a:q7 K):K:=if a.i=0/\a.o=0 then S.zero else match lJ a.i x,lJ a.o y with
 |some c,some b=>S.mul a.w (W c b a.t)
 |_,_=>S.zero
def tail(W:List Int->List Int->Nat->K)(x y:List Int)(q:Nat):K:=S.add (if x=[]/\y=[]then M.fin q else S.zero) (fL S (go S W x y) (M.arcs q))
def Im:Nat->List Int->List Int->Nat->K
 |0,x,y=>vC S (Gz S M) M.n (tail S M (λ_ _ _=>S.zero) x y)
 |f+1,x,y=>vC S (Gz S M) M.n (tail S M (Im f) x y)
def val(x y:List Int):Nat->K:=Im S M (x.length+y.length) x y
variable {S M}
theorem N4{s:Int}{x:List Int}(h:lJ s x=some p):p.length+(if s=0 then 0 else 1)=x.length:=by
 unfold lJ at h
 grind
theorem go_congr{W d:List Int->List Int->Nat->K}{x:List Int}{a:q7 K}(h:∀c b,c.length+b.length<x.length+p.length->W c b a.t=d c b a.t):go S W x p a=go S d x p a:=by
 unfold go;split
 ·rfl
 ·next g=>
  cases e:lJ a.i x with
  |none=>rfl
  | some c=>
   cases f:lJ a.o p with
   |none=>rfl
   |some b=>
    dsimp only;have i:=N4 e;have j:=N4 f
    grind
theorem sD{W W':List Int->List Int->Nat->K}{x:List Int}(h:∀b a,b.length+a.length<x.length+p.length->W b a=W' b a):tail S M W x p=tail S M W' x p:=by grind[fs,go_congr,tail]
theorem Io:∀{f g:Nat}{x y:List Int},x.length+y.length<=f->x.length+y.length<=g->Im S M f x y=Im S M g x y
 |0,0,_,_,_,_=>rfl
 |0,g+1,x,y,h,_=>by grind[sD,Im]
 |f+1,0,x,y,_,h=>by grind[sD,Im]
 |f+1,g+1,x,y,c,e=>by
  show vC S _ _ (tail S M _ x y)=vC S _ _ (tail S M _ x y);rw[sD (W:=Im S M f) (W':=Im S M g) λd a b=>Io (by omega) (by omega)]
theorem Ip(x y:List Int):val S M x y=vC S (Gz S M) M.n (tail S M (val S M) x y):=by
 have h:val S M x y=Im S M (x.length+y.length+1) x y:=Io (Nat.le_refl _) (Nat.le_succ _);rw[h];show vC S _ _ (tail S M _ x y)=_;rw[sD (W':=val S M) λc a b=>Io (by omega) (Nat.le_refl _)]
end ck
end Go.Num
end
section
namespace Go.Num
variable{n:Nat}
variable{m:Nat}
namespace bh
variable {K:Type} {S:bh K}
theorem GJ{f:Nat->K}(h:∀i,i<n->f i=S.zero):S.cx f n=S.zero:=by grind[aI,hK]
theorem sy(f:Nat->K){a m n:Nat}(h:a+m<=n):S.cx (λj=>if a<=j/\j<a+m then f j else S.zero) n=S.cx (λp=>f (a+p)) m:=by
 rw[qV a (by omega:a<=n),GJ (λi b=>by rw[if_neg (by omega)]),S.zero_add];rw[qV m (by omega:m<=n-a)];rw[aI (f:=λi=>if a<=a+i/\a+i<a+m then f (a+i)else S.zero) (g:=λp=>f (a+p)) (n:=m) λi b=>by rw[if_pos (by omega)]];simp[GJ,if_neg,add_zero]
theorem Zh(f:Nat->K){a m n:Nat}(h:a+m<=n):S.cx f n=S.add (S.cx (λp=>f (a+p)) m) (S.cx (λj=>if a<=j/\j<a+m then S.zero else f j) n):=by
 rw[<-sy f h,<-iJ];refine aI λj _=>?_;by_cases c:a<=j/\j<a+m
 ·rw[if_pos c,if_pos c,add_zero]
 ·rw[if_neg c,if_neg c,S.zero_add]
theorem Ux{a a':Nat->Nat->K}{low:Nat}{c c':Nat->K}(h:low+m<=n)(w:∀q p,q<m->p<m->a (low+q) (low+p)=a' q p)
  (s:∀q,q<m->c' q=S.add (c (low+q)) (S.cx (λj=>if low<=j/\j<low+m then S.zero else S.mul (a (low+q) j) (vC S a n c j)) n)):∀q,q<m->vC S a n c (low+q)=vC S a' m c' q:=by
 have d:∀(y:Nat->K) q,q<m->S.add (c (low+q)) (S.cx (λj=>S.mul (a (low+q) j) (y j)) n)=S.add (S.add (c (low+q)) (S.cx (λj=>if low<=j/\j<low+m then S.zero else S.mul (a (low+q) j) (y j)) n)) (S.cx (λp=>S.mul (a' q p) (y (low+p))) m):=λy q b=>by
  rw[Zh (λj=>S.mul (a (low+q) j) (y j)) h,S.add_assoc];congr 1;rw[S.add_comm]
  grind[aI]
 have g:∀q,q<m->S.le (vC S a' m c' q) (vC S a n c (low+q)):=λq b=>by
  refine uY a' (n:=m) (c:=c') (x:=λq=>vC S a n c (low+q)) (λi k=>?_) b;have u:=d (vC S a n c) i k
  grind[wW,le_of_eq]
 let Y:Nat->K:=λj=>if low<=j/\j<low+m then vC S a' m c' (j-low)else vC S a n c j
 have r:∀j,S.le (Y j) (vC S a n c j):=λj=>by
  by_cases e:low<=j/\j<low+m
  ·grind
  ·show S.le (if _ then _ else _) _;rw[if_neg e];exact S.le_refl _
 intro q b;refine S.B2 ?_ (g q b);have v:=uY (S:=S) a (n:=n) (c:=c) (x:=Y) (λi k=>?_) (i:=low+q) (by omega)
 ·grind
 ·by_cases e:low<=i/\i<low+m
  ·obtain⟨p,rfl⟩:∃p,i=low+p:=⟨i-low,by omega⟩
   have o:p<m:=by omega
   have f:Y (low+p)=vC S a' m c' p:=by
    show(if _ then _ else _)=_;rw[if_pos e,show low+p-low=p by omega]
   rw[d Y p o,f];refine le_of_eq ?_
   conv=>rhs;rw[wW,s p o]
   congr 1
   ·grind
   ·refine aI λl t=>?_
    grind
  ·have f:Y i=vC S a n c i:=by
    show(if _ then _ else _)=_;rw[if_neg e]
   rw[f]
   conv=>rhs;rw[wW]
   exact S.wz (S.le_refl _) (VP λj _=>S.HE _ (r j))
end bh
end Go.Num
end
section
namespace Go.Num
open bh
section
variable {K:Type} {S:bh K}
def AV{K:Type}(low:Nat)(a:q7 K):q7 K:=⟨a.i,a.o,a.w,low+a.t⟩
def Sa{K:Type}(t:Nat):Option K->List (q7 K)
 |none=>[]
 |some w=>[⟨0,0,w,t⟩]
structure nW(C A:ck K)(low:Nat)(lv:Nat->Option K)(t:Nat):Prop where
 fit:low+A.n<=C.n
 out:t<C.n/\(t<low\/low+A.n<=t)
 tgt:∀q,q<A.n->∀a∈A.arcs q,a.t<A.n
 arcs:∀q,q<A.n->C.arcs (low+q)=(A.arcs q).map (AV low)++Sa t (lv q)
def Ft(S:bh K)(o:Option K):K:=o.getD S.zero
def emp(S:bh K)(x y:List Int)(k:K):K:=if x=[]/\y=[]then k else S.zero
section
variable {C A:ck K} {low t:Nat} {lv:Nat->Option K}
theorem wu(F:q7 K->K)(t:Nat)(o:Option K):fL S F (Sa t o)=match o with|none=>S.zero|some w=>F ⟨0,0,w,t⟩:=by
 cases o with
 |none=>rfl
 |some w=>exact add_zero _
theorem nW.abt(b:nW C A low lv t){q p:Nat}(d:q<A.n)(e:p<A.n):ck.Gz S C (low+q) (low+p)=ck.Gz S A q p:=by
 unfold ck.Gz;rw[b.arcs q d,yX,qU,wu];have c:fL S (λa=>if(AV low a).i=0/\(AV low a).o=0/\(AV low a).t=low+p then(AV low a).w else S.zero) (A.arcs q)=fL S (λa=>if a.i=0/\a.o=0/\a.t=p then a.w else S.zero) (A.arcs q):=fs λa _=>by
  show(if a.i=0/\a.o=0/\low+a.t=low+p then a.w else S.zero)=_
  grind
 rw[c]
 cases lv q with
 |none=>exact add_zero _
 |some w=>
  dsimp only;rw[if_neg (by have:=b.out;omega),add_zero]
theorem nW.Y7(b:nW C A low lv t){q j:Nat}(c:q<A.n)(e:¬(low<=j/\j<low+A.n)):ck.Gz S C (low+q) j=if t=j then Ft S (lv q)else S.zero:=by
 unfold ck.Gz;rw[b.arcs q c,yX,qU,wu];rw[fs (g:=λ_=>S.zero) λa d=>?_,oE,S.zero_add]
 ·grind[Ft]
 ·show(if a.i=0/\a.o=0/\low+a.t=j then a.w else S.zero)=S.zero;rw[if_neg];have:=b.tgt q c a d;omega
theorem nW.val(b:nW C A low lv t)(x y:List Int){q:Nat}(d:q<A.n):ck.val S C x y (low+q)=vC S (ck.Gz S A) A.n (λq=>S.add (S.add (emp S x y (C.fin (low+q))) (fL S (ck.go S (λh f p=>ck.val S C h f (low+p)) x y) (A.arcs q))) (S.mul (Ft S (lv q)) (ck.val S C x y t))) q:=by
 have i:=ck.Ip (S:=S) (M:=C) x y;have l:=Ux (S:=S) (a:=ck.Gz S C) (a':=ck.Gz S A) (n:=C.n) (m:=A.n) (low:=low) (c:=ck.tail S C (ck.val S C) x y) (c':=λq=>S.add (S.add (emp S x y (C.fin (low+q))) (fL S (ck.go S (λh f p=>ck.val S C h f (low+p)) x y) (A.arcs q))) (S.mul (Ft S (lv q)) (ck.val S C x y t))) b.fit (λq p d k=>b.abt d k) (λq d=>by
  congr 1
  ·unfold ck.tail emp;congr 1;rw[b.arcs q d,yX,qU,wu];have:(match lv q with|none=>S.zero|some w=>ck.go S (ck.val S C) x y ⟨0,0,w,t⟩)=S.zero:=by
    cases lv q with
    |none=>rfl
    |some w=>exact if_pos ⟨rfl,rfl⟩
   rw[this,add_zero];rfl
  ·rw[i];rw[aI (g:=λj=>if t<=j/\j<t+1 then S.mul (Ft S (lv q)) (vC S (ck.Gz S C) C.n (ck.tail S C (ck.val S C) x y) j)else S.zero) λj _=>by
    by_cases c:low<=j/\j<low+A.n
    ·rw[if_pos c,if_neg (by have:=b.out;omega)]
    ·rw[if_neg c,b.Y7 d c];by_cases e:t=j
     ·rw[if_pos e,if_pos (by omega)]
     ·rw[if_neg e,if_neg (by omega),S.zero_mul]]
   rw[sy (λj=>S.mul (Ft S (lv q)) (vC S (ck.Gz S C) C.n (ck.tail S C (ck.val S C) x y) j)) (by have:=b.out;omega:t+1<=C.n)];exact(S.zero_add _).symm) q d
 simp_all
theorem nW.jA(b:nW C A low lv t)(e:∀q,q<A.n->lv q=none)(d:∀q,q<A.n->C.fin (low+q)=A.fin q):∀(n:Nat)(x y:List Int),x.length+y.length<=n->∀q,q<A.n->ck.val S C x y (low+q)=ck.val S A x y q
 |n,x,y,j,q,c=>by
  rw[b.val x y c,ck.Ip (S:=S) (M:=A) x y];refine GB (λ_ _ _ _=>rfl) (λq c=>?_) q c;rw[e q c,d q c];show S.add _ (S.mul S.zero _)=_;rw[S.zero_mul,add_zero];unfold ck.tail emp;congr 1;refine fs λa h=>ck.go_congr λg f i=>?_
  cases n with
  |zero=>omega
  |succ n=>exact b.jA e d n g f (by omega) _ (b.tgt q c a h)
end
end
section
variable {K:Type} {S:bh K}
theorem G7{C:ck K}{q:Nat}(s:q<C.n)(d:∀a∈C.arcs q,a.i=0/\a.o=0/\a.t<C.n)(x y:List Int):ck.val S C x y q=S.add (emp S x y (C.fin q)) (fL S (λa=>S.mul a.w (ck.val S C x y a.t)) (C.arcs q)):=by
 have f:∀q,ck.val S C x y q=vC S (ck.Gz S C) C.n (ck.tail S C (ck.val S C) x y) q:=λq=>by rw[ck.Ip (S:=S) (M:=C) x y]
 rw[f,wW];have j:ck.tail S C (ck.val S C) x y q=emp S x y (C.fin q):=by
  unfold ck.tail emp;rw[fs (g:=λ_=>S.zero) λa h=>?_,oE,add_zero];unfold ck.go;rw[if_pos ⟨(d a h).1,(d a h).2.1⟩]
 rw[j];congr 1;have o:∀l,S.mul (ck.Gz S C q l) (vC S (ck.Gz S C) C.n (ck.tail S C (ck.val S C) x y) l)=fL S (λa=>if a.t=l then S.mul a.w (ck.val S C x y l)else S.zero) (C.arcs q):=λl=>by
  show S.mul (fL S (λa=>if a.i=0/\a.o=0/\a.t=l then a.w else S.zero) (C.arcs q)) _=_;rw[S.mul_comm,<-yY];refine fs λa h=>?_;obtain⟨k,n,_⟩:=d a h;by_cases c:a.t=l
  ·rw[if_pos ⟨k,n,c⟩,if_pos c,S.mul_comm,<-f]
  ·rw[if_neg λe=>c e.2.2,if_neg c,mul_zero]
 rw[aI λl _=>o l];have r:∀l:List (q7 K),(∀a∈l,a.t<C.n)->S.cx (λp=>fL S (λa=>if a.t=p then S.mul a.w (ck.val S C x y p)else S.zero) l) C.n=fL S (λa=>S.mul a.w (ck.val S C x y a.t)) l:=λl=>by
  induction l with
  |nil=>intro _;exact hK _
  | cons a l m=>
   intro h;show S.cx (λp=>S.add (if a.t=p then S.mul a.w (ck.val S C x y p)else S.zero) (fL S _ l)) C.n=S.add _ _;rw[iJ,m λb i=>h b (List.mem_cons_of_mem _ i)];congr 1;have t:=h a (mem_cons_self ..);rw[aI (g:=λp=>if a.t<=p/\p<a.t+1 then S.mul a.w (ck.val S C x y p)else S.zero) λp _=>by
    by_cases c:a.t=p
    ·rw[if_pos c,if_pos (by omega)]
    ·rw[if_neg c,if_neg (by omega)]]
   rw[sy (λp=>S.mul a.w (ck.val S C x y p)) (show a.t+1<=C.n by omega)];show S.add S.zero (S.mul a.w (ck.val S C x y (a.t+0)))=_;rw[S.zero_add,Nat.add_zero]
 grind
abbrev adV(K:Type):=List Int->List Int->K
end
variable{A:Type}
section
variable {K:Type}
noncomputable def aq(S:bh K):qe K:=⟨S.zero,S.one,λa=>@decide (a=S.zero) (Classical.propDecidable _),λa b=>some (S.add a b),λa b=>some (S.mul a b),λa=>some (S.star a)⟩
variable {S:bh K}
def vec(S:bh K)(l:List K)(p:Nat):K:=l.getD p S.zero
theorem uB{a:K}:(aq S).xX a=true↔a=S.zero:=@decide_eq_true_iff (a=S.zero) (Classical.propDecidable _)
theorem uF{l:List K}{t p:Nat}(a:K)(b:t<l.length):vec S (l.set t a) p=if p=t then a else vec S l p:=by
 unfold vec
 grind
theorem qI(n p:Nat):vec S (List.replicate n S.zero) p=S.zero:=by grind[vec]
theorem mA{f:List K->Nat->Option (List K)}{n:Nat}{c:Nat->Nat->K}:∀(m i:Nat)(l:List K),(∀(l:List K)(k:Nat),i<=k->k<i+m->l.length=n->∃a,f l k=some a/\a.length=n/\∀p,p<n->vec S a p=S.add (vec S l p) (c k p))->l.length=n->
  ∃a,bd f m i l=some a/\a.length=n/\∀p,p<n->vec S a p=S.add (vec S l p) (S.cx (λj=>c (i+j) p) m)
 |0,i,l,_,b=>⟨l,rfl,b,λp _=>(add_zero _).symm⟩
 |m+1,i,l,d,b=>by
  obtain⟨q,h,o,g⟩:=d l i (Nat.le_refl _) (by omega) b;obtain⟨u,r,t,s⟩:=mA m (i+1) q (λl k w v=>d l k (by omega) (by omega)) o;refine⟨u,by unfold bd;rw[h];exact r,t,λp e=>?_⟩;rw[s p e,g p e,S.add_assoc];congr 1;rw[qV (S:=S) (f:=λj=>c (i+j) p) 1 (n:=m+1) (by omega)];congr 1
  ·exact(S.zero_add _).symm
  grind
theorem oR{a:Type}{f:List a->Nat->Option (List a)}{c:Nat->a}:∀(m i:Nat)(l:List a),(∀(l:List a)(k:Nat),i<=k->k<i+m->f l k=some (l++[c k]))->bd f m i l=some (l++(List.range m).map λj=>c (i+j))
 |0,i,l,_=>by simp[bd]
 |m+1,i,l,b=>by
  unfold bd;rw[b l i (Nat.le_refl _) (by omega)];show bd f m (i+1) _=_;rw[oR m (i+1) _ λl k d e=>b l k (by omega) (by omega),List.range_succ_eq_map,List.map_cons,List.map_map,append_assoc];congr 2;show c i::_=c (i+0)::_;congr 1;exact List.map_congr_left λj _=>by grind
theorem tr{b:Type}(F:b->K)(d:b):∀l:List b,S.cx (λk=>F (l.getD k d)) l.length=fL S F l
 |[]=>rfl
 |a::l=>by
  rw[List.length_cons,qV (S:=S) 1 (n:=l.length+1) (by omega)];show S.add (S.add S.zero (F a)) _=S.add (F a) _;rw[S.zero_add,<-tr F d l]
  grind
theorem Cj{l:List K}{t:Nat}(a b:K)(d:t<l.length):∃c,gF (aq S) l t a b=some c/\c.length=l.length/\∀p,vec S c p=S.add (vec S l p) (if t=p then S.mul a b else S.zero):=by
 refine⟨l.set t (S.add (vec S l t) (S.mul a b)),rfl,length_set,λp=>?_⟩;rw[uF _ d];by_cases e:t=p
 ·grind
 ·rw[if_neg λh=>e h.symm,if_neg e,add_zero]
def gT(i o:Int)(p:Nat)(a:jq K):Prop:=a.i=i/\a.o=o/\a.t=p
instance (i o:Int) (p:Nat) (a:jq K):Decidable (gT i o p a):=inferInstanceAs (Decidable (_/\_/\_))
def bF(M:gj K)(q:Nat):List (jq K):=(M.bK.getD q dQ).arcs
def kP(M:gj K):Prop:=∀s∈M.bK,∀a∈s.arcs,a.t<M.bK.length
theorem kP.at_{M:gj K}(g:kP M){q k:Nat}(a:k<(bF M q).length):((bF M q).getD k (cm (aq S))).t<M.bK.length:=by
 unfold bF at*;rcases tp (M:=M) q with e|e
 ·rw[e]at a;exact absurd a (Nat.not_lt_zero _)
 ·rw[gD,gE a];exact g _ e _ (getElem_mem a)
theorem Sh{M:gj K}(g:kP M)(v:List K)(i o:Int):∃l,kQ (aq S) M v i o=some l/\l.length=M.bK.length/\∀p,p<M.bK.length->vec S l p=S.cx (λq=>fL S (λa=>if gT i o p a then S.mul (vec S v q) a.w else S.zero) (bF M q)) M.bK.length:=by
 obtain⟨l,y,A,w⟩:=mA (S:=S) (f:=qF (aq S) M v i o) (n:=M.bK.length) (c:=λq p=>fL S (λa=>if gT i o p a then S.mul (vec S v q) a.w else S.zero) (bF M q)) M.bK.length 0 (bw (aq S) M.bK.length) (λl q _ _ b=>by
  unfold qF;have t:(aq S).xX (v.getD q (aq S).zero)=true↔vec S v q=S.zero:=uB;by_cases r:vec S v q=S.zero
  ·rw[if_pos (t.2 r)];refine⟨l,rfl,b,λp _=>?_⟩;rw[r,fs (g:=λ_=>S.zero) λa _=>by split;exact S.zero_mul _;rfl,oE,add_zero]
  ·rw[if_neg λh=>r (t.1 h)];obtain⟨m,u,C,z⟩:=mA (S:=S) (f:=jS (aq S) i o (vec S v q) (bF M q)) (n:=M.bK.length) (c:=λk p=>if gT i o p ((bF M q).getD k (cm (aq S)))then S.mul (vec S v q) ((bF M q).getD k (cm (aq S))).w else S.zero) (bF M q).length 0 l (λl k _ F b=>by
    unfold jS;by_cases d:((bF M q).getD k (cm (aq S))).i≠i\/((bF M q).getD k (cm (aq S))).o≠o
    ·rw[if_pos d];exact⟨l,rfl,b,λp _=>by rw[if_neg λh=>d.elim (λx=>x h.1) (λx=>x h.2.1),add_zero]⟩
    ·rw[if_neg d];obtain⟨m,D,B,E⟩:=Cj (S:=S) (l:=l) (vec S v q) ((bF M q).getD k (cm (aq S))).w (by rw[b];exact g.at_ (S:=S) (q:=q) (k:=k) (by omega));refine⟨m,D,by rw[B,b],λp _=>?_⟩;rw[E p];congr 1;by_cases e:((bF M q).getD k (cm (aq S))).t=p
     ·rw[if_pos e,if_pos];exact⟨Classical.byContradiction λx=>d (.inl x),Classical.byContradiction λx=>d (.inr x),e⟩
     ·rw[if_neg e,if_neg λh=>e h.2.2]) b
   refine⟨m,u,C,λp s=>?_⟩;rw[z p s];congr 1;have:=tr (S:=S) (λa=>if gT i o p a then S.mul (vec S v q) a.w else S.zero) (cm (aq S)) (bF M q);rw[<-this];exact aI λj _=>by rw[Nat.zero_add]) length_replicate
 refine⟨l,y,A,λp s=>?_⟩;rw[w p s];have:vec S (bw (aq S) M.bK.length) p=S.zero:=qI _ _;rw[this,S.zero_add]
 grind
theorem mu(c:Nat->A)(d:A){n i:Nat}(h:i<n):((List.range n).map c).getD i d=c i:=by grind
theorem Xg(a b:List K):∃l,nD (aq S) a b=some l/\l.length=a.length/\∀p,p<a.length->vec S l p=S.add (vec S a p) (vec S b p):=by
 have h:=oR (f:=xp (aq S) a b) (c:=λi=>S.add (vec S a i) (vec S b i)) a.length 0 [] (λl k _ _=>rfl);refine⟨_,h,by simp,λp d=>?_⟩
 simp_all[vec]
def eN(S:bh K)(M:gj K):ck K:=⟨M.bK.length,λq=>(M.bK.getD q dQ).fin.getD S.zero,λq=>(bF M q).map λa=>⟨a.i,a.o,a.w,a.t⟩⟩
def zu(S:bh K)(M:gj K)(q p:Nat):K:=fL S (λa=>if gT 0 0 p a then a.w else S.zero) (bF M q)
theorem IV(M:gj K)(q p:Nat):ck.Gz S (eN S M) q p=zu S M q p:=by
 show fL S _ ((bF M q).map _)=_;rw[qU];rfl
theorem GW(B:List (List K))(i j:Nat):bU (aq S) B i j=vec S (B.getD i []) j:=rfl
theorem Xd{M:gj K}(g:kP M):∃A,bd (gP (aq S) M) M.bK.length 0 []=some A/\A.length=M.bK.length/\∀q p,q<M.bK.length->p<M.bK.length->bU (aq S) A q p=zu S M q p:=by
 have e:∀q,∃r,bd (eZ (aq S) (bF M q)) (bF M q).length 0 (bw (aq S) M.bK.length)=some r/\∀p,p<M.bK.length->vec S r p=zu S M q p:=λq=>by
  obtain⟨o,m,y,t⟩:=mA (S:=S) (f:=eZ (aq S) (bF M q)) (n:=M.bK.length) (c:=λk p=>if gT 0 0 p ((bF M q).getD k (cm (aq S)))then((bF M q).getD k (cm (aq S))).w else S.zero) (bF M q).length 0 (bw (aq S) M.bK.length) (λl k _ w i=>by
   unfold eZ;by_cases d:((bF M q).getD k (cm (aq S))).i≠0\/((bF M q).getD k (cm (aq S))).o≠0
   ·rw[if_pos d];exact⟨l,rfl,i,λp _=>by rw[if_neg λh=>d.elim (λx=>x h.1) (λx=>x h.2.1),add_zero]⟩
   ·rw[if_neg d];have v:((bF M q).getD k (cm (aq S))).t<l.length:=by rw[i];exact g.at_ (S:=S) (q:=q) (k:=k) (by omega)
    refine⟨_,rfl,by rw[length_set,i],λp _=>?_⟩;have:=uF (S:=S) (p:=p) (S.add (vec S l ((bF M q).getD k (cm (aq S))).t) ((bF M q).getD k (cm (aq S))).w) v;refine this.trans ?_;by_cases b:p=((bF M q).getD k (cm (aq S))).t
    ·rw[if_pos b,if_pos,b];exact⟨Classical.byContradiction λx=>d (.inl x),Classical.byContradiction λx=>d (.inr x),b.symm⟩
    ·rw[if_neg b,if_neg λh=>b h.2.2.symm,add_zero]) length_replicate
  refine⟨o,m,λp b=>?_⟩;rw[t p b];have u:vec S (bw (aq S) M.bK.length) p=S.zero:=qI _ _;rw[u,S.zero_add];have:=tr (S:=S) (λa=>if gT 0 0 p a then a.w else S.zero) (cm (aq S)) (bF M q);unfold zu;rw[<-this];exact aI λj _=>by rw[Nat.zero_add]
 have h:=oR (f:=gP (aq S) M) (c:=λq=>(e q).choose) M.bK.length 0 [] (λl k _ _=>by
  unfold gP;have:=(e k).choose_spec.1;unfold bF at this;rw[this];rfl)
 refine⟨_,h,by simp,λq p s b=>?_⟩;rw[GW,List.nil_append,mu _ _ s,Nat.zero_add]
 grind
theorem G1(B:List (List K))(k:Nat)(a:Nat->Nat->K)(m:k<B.length)(g:∀i j,i<B.length->j<B.length->bU (aq S) B i j=elim S a k i j):∃C,fo (aq S) B k=some C/\C.length=B.length/\∀i j,i<B.length->j<B.length->bU (aq S) C i j=elim S a (k+1) i j:=by
 have n:∀i j,i<B.length->j<B.length->∀r,cz (aq S) B (S.star (bU (aq S) B k k)) k i r j=some (r++[elim S a (k+1) i j]):=λi j b d r=>by
  unfold cz;have e:elim S a (k+1) i j=S.add (bU (aq S) B i j) (S.mul (S.mul (bU (aq S) B i k) (S.star (bU (aq S) B k k))) (bU (aq S) B k j)):=by
   rw[g i j b d,g i k b m,g k k m m,g k j m d];rfl
  by_cases c:((aq S).xX (bU (aq S) B i k)||(aq S).xX (bU (aq S) B k j))=true
  ·rw[if_pos c,e];congr 3;rw[Bool.or_eq_true,uB,uB]at c;rcases c with c|c
   ·rw[c,S.zero_mul,S.zero_mul,add_zero]
   grind[mul_zero,add_zero]
  ·rw[if_neg c,e];rfl
 have o:∀i,i<B.length->bd (cz (aq S) B (S.star (bU (aq S) B k k)) k i) B.length 0 []=some ((List.range B.length).map λj=>elim S a (k+1) i j):=λi b=>by
  have:=oR (f:=cz (aq S) B (S.star (bU (aq S) B k k)) k i) (c:=λj=>elim S a (k+1) i j) B.length 0 [] (λl j _ d=>n i j b (by omega) l)
  grind
 have h:=oR (f:=iT (aq S) B (S.star (bU (aq S) B k k)) k) (c:=λi=>(List.range B.length).map λj=>elim S a (k+1) i j) B.length 0 [] (λl i _ b=>by grind[iT]);refine⟨_,h,by simp,λi j b d=>?_⟩;rw[GW,List.nil_append,mu _ _ b,Nat.zero_add];exact mu _ _ d
theorem IL(a:Nat->Nat->K):∀(m k:Nat)(B:List (List K)),k+m=B.length->(∀i j,i<B.length->j<B.length->bU (aq S) B i j=elim S a k i j)->∃C,bd (fo (aq S)) m k B=some C/\C.length=B.length/\∀i j,i<B.length->j<B.length->bU (aq S) C i j=elim S a (k+m) i j
 |0,k,B,_,b=>⟨B,rfl,rfl,b⟩
 |m+1,k,B,d,b=>by
  obtain⟨C,e,f,c⟩:=G1 B k a (by omega) b;obtain⟨D,g,o,l⟩:=IL a m (k+1) C (by omega) (λi j h n=>c i j (by omega) (by omega))
  grind[bd]
theorem IF:∀(m k:Nat)(B:List (List K)),k+m=B.length->(∀i,i<B.length->(B.getD i []).length=B.length)->∃C,bd (nY (aq S)) m k B=some C/\∀i j,i<B.length->j<B.length->bU (aq S) C i j=if i=j/\k<=i then S.add S.one (bU (aq S) B i j)else bU (aq S) B i j
 |0,k,B,f,b=>⟨B,rfl,λi j a d=>by grind⟩
 | m+1,k,B,f,b=>by
  have n:k<B.length:=by omega
  obtain⟨C,g,l⟩:=IF m (k+1) (B.set k ((B.getD k []).set k (S.add S.one (bU (aq S) B k k)))) (by rw[length_set];omega) (λi a=>by
   rw[length_set]at a;rw[gD,List.getElem?_set,length_set];by_cases e:k=i
   ·subst e;rw[if_pos rfl,if_pos a,getD_some,length_set];exact b k a
   ·rw[if_neg e,<-gD];exact b i a)
  refine⟨C,g,λi j a d=>?_⟩;rw[l i j (by rw[length_set];exact a) (by rw[length_set];exact d)];have e:bU (aq S) (B.set k ((B.getD k []).set k (S.add S.one (bU (aq S) B k k)))) i j=if i=k/\j=k then S.add S.one (bU (aq S) B k k)else bU (aq S) B i j:=by
   rw[GW,gD,List.getElem?_set];by_cases e:k=i
   ·subst e;rw[if_pos rfl,if_pos a,getD_some,uF _ (by rw[b k a];exact a)];by_cases c:j=k
    ·rw[if_pos c,if_pos ⟨rfl,c⟩]
    ·rw[if_neg c,if_neg λh=>c h.2];rfl
   ·rw[if_neg e,<-gD,if_neg λh=>e h.1.symm];rfl
  grind
theorem CA:∀{m k:Nat}{B C:List (List K)},bd (fo (aq S)) m k B=some C->(∀i,i<B.length->(B.getD i []).length=B.length)->∀i,i<C.length->(C.getD i []).length=C.length
 |0,k,B,C,h,y=>by obtain rfl:=oI h;omega
 | m+1,k,B,C,h,y=>by
  unfold bd at h
  cases e:fo (aq S) B k with
  |none=>grind
  | some D=>
   rw[e]at h;refine CA h ?_;have t:∀i r j,∃c,cz (aq S) B (S.star (bU (aq S) B k k)) k i r j=some (r++[c]):=λi r j=>by
    unfold cz;split
    ·exact⟨_,rfl⟩
    ·exact⟨_,rfl⟩
   have w:∀i n d (r:List K),∃b,bd (cz (aq S) B (S.star (bU (aq S) B k k)) k i) n d r=some b/\b.length=r.length+n:=λi n=>by
    induction n with
    |zero=>exact λd r=>⟨r,rfl,rfl⟩
    |succ n s=>
     intro d r;obtain⟨c,t⟩:=t i r d;obtain⟨b,g,l⟩:=s (d+1) (r++[c]);exact⟨b,by unfold bd;rw[t];exact g,by rw[l];simp;omega⟩
   have o:∀n f (E:List (List K)),(∀x∈E,x.length=B.length)->∃a,bd (iT (aq S) B (S.star (bU (aq S) B k k)) k) n f E=some a/\a.length=E.length+n/\∀x∈a,x.length=B.length:=λn=>by
    induction n with
    |zero=>exact λf E p=>⟨E,rfl,rfl,p⟩
    | succ n s=>
     intro f E p;obtain⟨b,g,l⟩:=w f B.length 0 [];obtain⟨a,u,v,z⟩:=s (f+1) (E++[b]) (λx q=>by
      rcases mem_append.1 q with h|h
      ·exact p x h
      ·rw[mem_singleton.1 h,l];simp)
     exact⟨a,by unfold bd iT;rw[g];exact u,by rw[v];simp;omega,z⟩
   obtain⟨a,g,l,u⟩:=o B.length 0 [] (λx q=>by cases q);have v:fo (aq S) B k=some a:=g
   grind
theorem Sg{A:List (List K)}(a:∀i,i<A.length->(A.getD i []).length=A.length):∃B,jR (aq S) A=some B/\∀i j,i<A.length->j<A.length->bU (aq S) B i j=if i=j then S.add S.one (elim S (bU (aq S) A) A.length i j)else elim S (bU (aq S) A) A.length i j:=by
 obtain⟨C,b,e,d⟩:=IL (S:=S) (bU (aq S) A) A.length 0 A (Nat.zero_add _) (λi j _ _=>rfl);have c:=CA b a;obtain⟨B,g,f⟩:=IF (S:=S) A.length 0 C (by omega) c
 simp_all[jR]
end
variable{p:List Int}
section
variable {K:Type} {S:bh K}
theorem Sd{v:List K}{B:List (List K)}:∃l,fX (aq S) v (some B)=some l/\l.length=v.length/\∀p,p<v.length->vec S l p=S.cx (λq=>S.mul (vec S v q) (bU (aq S) B q p)) v.length:=by
 obtain⟨l,m,r,i⟩:=mA (S:=S) (f:=λl q=>bd (fN (aq S) v B q) v.length 0 l) (n:=v.length) (c:=λq p=>S.mul (vec S v q) (bU (aq S) B q p)) v.length 0 (bw (aq S) v.length) (λl q _ _ a=>by
  obtain⟨b,h,w,o⟩:=mA (S:=S) (f:=fN (aq S) v B q) (n:=v.length) (c:=λk p=>if k=p then S.mul (vec S v q) (bU (aq S) B q k)else S.zero) v.length 0 l (λl k _ z a=>by
   unfold fN;by_cases c:((aq S).xX (v.getD q (aq S).zero)||(aq S).xX (bU (aq S) B q k))=true
   ·rw[if_pos c];refine⟨l,rfl,a,λp _=>?_⟩;have u:S.mul (vec S v q) (bU (aq S) B q k)=S.zero:=by
     rw[Bool.or_eq_true,uB,uB]at c;rcases c with c|c
     ·have c:vec S v q=S.zero:=c;rw[c,S.zero_mul]
     ·have c:bU (aq S) B q k=S.zero:=c;rw[c,mul_zero]
    rw[u];split<;>rw[add_zero]
   ·rw[if_neg c];obtain⟨b,x,s,y⟩:=Cj (S:=S) (l:=l) (t:=k) (vec S v q) (bU (aq S) B q k) (by omega);exact⟨b,x,by rw[s,a],λp _=>y p⟩) a
  refine⟨b,h,w,λp d=>?_⟩;rw[o p d];congr 1;rw[aI (g:=λj=>if p<=j/\j<p+1 then S.mul (vec S v q) (bU (aq S) B q j)else S.zero) λj _=>by
   rw[Nat.zero_add];by_cases e:j=p
   ·rw[if_pos e,if_pos (by omega)]
   ·rw[if_neg e,if_neg (by omega)]]
  rw[sy (λj=>S.mul (vec S v q) (bU (aq S) B q j)) (by omega:p+1<=v.length)];exact S.zero_add _) length_replicate
 refine⟨l,m,r,λp d=>?_⟩;rw[i p d];have:vec S (bw (aq S) v.length) p=S.zero:=qI _ _;rw[this,S.zero_add]
 grind
theorem Xc(M:gj K)(v:List K)(i:v.length=M.bK.length):oM (aq S) M v=some (dot S (vec S v) (eN S M).fin v.length):=by
 obtain⟨l,b,j,d⟩:=mA (S:=S) (f:=jP (aq S) M v) (n:=1) (c:=λq p=>S.mul (vec S v q) ((eN S M).fin q)) v.length 0 [S.zero] (λl q _ _ e=>by
  unfold jP;show ∃a,(match (M.bK.getD q dQ).fin with|none=>some l|some f=>gF (aq S) l 0 (v.getD q (aq S).zero) f)=some a/\a.length=1/\∀p,p<1->vec S a p=S.add (vec S l p) (S.mul (vec S v q) ((M.bK.getD q dQ).fin.getD S.zero))
  cases (M.bK.getD q dQ).fin with
  |none=>exact⟨l,rfl,e,λp _=>by show _=S.add _ (S.mul _ S.zero);rw[mul_zero,add_zero]⟩
  |some f=>
   obtain⟨a,g,k,h⟩:=Cj (S:=S) (l:=l) (t:=0) (vec S v q) f (by omega);refine⟨a,g,by omega,λp m=>?_⟩;rw[h p,if_pos (by omega)];rfl) rfl
 unfold oM;have b:bd (jP (aq S) M v) v.length 0 [(aq S).zero]=some l:=b;rw[b];show some (vec S l 0)=_;rw[d 0 (by omega)];show some (S.add S.zero _)=_;rw[S.zero_add]
 simp_all[dot]
noncomputable def GV(S:bh K)(M:gj K)(x y:List Int)(i j q:Nat):K:=ck.val S (eN S M) (x.drop i) (y.drop j) q
def jc(S:bh K)(M:gj K)(x y:List Int)(i j q:Nat):K:=ck.tail S (eN S M) (ck.val S (eN S M)) (x.drop i) (y.drop j) q
theorem Lv{M:gj K}(g:kP M){r:Option (List (List K))}(f:dX (aq S) M=some r):∀v:List K,v.length=M.bK.length->∃l,fX (aq S) v r=some l/\l.length=M.bK.length/\∀x y i j,dot S (vec S v) (GV S M x y i j) M.bK.length=dot S (vec S l) (jc S M x y i j) M.bK.length:=by
 obtain⟨A,P,Q,R⟩:=Xd (S:=S) g;unfold dX at f;rw[P]at f;dsimp only at f;have O:∀x y i j,GV S M x y i j=vC S (ck.Gz S (eN S M)) M.bK.length (jc S M x y i j):=λx y i j=>ck.Ip (S:=S) (M:=eN S M) (x.drop i) (y.drop j);split at f
 ·split at f
  ·grind
  ·have T:∀i,i<A.length->(A.getD i []).length=A.length:=by
    have L:∀(m k:Nat)(E t:List (List K)),(∀x∈E,x.length=M.bK.length)->bd (gP (aq S) M) m k E=some t->∀x∈t,x.length=M.bK.length:=λm=>by
     induction m with
     |zero=>intro k E t G e;obtain rfl:=oI e;exact G
     | succ m I=>
      intro k E t G e;unfold bd at e
      cases o:gP (aq S) M E k with
      |none=>rw[o]at e;cases e
      | some F=>
       rw[o]at e;refine I (k+1) F t ?_ e;unfold gP at o
       cases C:bd (eZ (aq S) (M.bK.getD k dQ).arcs) (M.bK.getD k dQ).arcs.length 0 (bw (aq S) M.bK.length)with
       |none=>rw[C]at o;cases o
       | some r=>
        rw[C]at o;obtain rfl:=oI o;have f:∀(m D:Nat)(l u:List K),bd (eZ (aq S) (M.bK.getD k dQ).arcs) m D l=some u->u.length=l.length:=λm=>by
         induction m with
         |zero=>intro D l u e;obtain rfl:=oI e;rfl
         | succ m I=>
          intro D l u e;unfold bd at e
          cases s:eZ (aq S) (M.bK.getD k dQ).arcs l D with
          |none=>rw[s]at e;cases e
          |some l2=>
           rw[s]at e;rw[I _ _ _ e];unfold eZ at s;split at s
           ·obtain rfl:=oI s;rfl
           ·have s:some (l.set _ _)=some l2:=s;obtain rfl:=oI s;exact length_set
        intro x H;rcases mem_append.1 H with h|h
        ·exact G x h
        ·rw[mem_singleton.1 h,f _ _ _ _ C];exact length_replicate
    intro i z;rw[gD,gE z,getD_some,Q];exact L _ _ _ _ (λx H=>by cases H) P _ (getElem_mem z)
   obtain⟨B,W,h5⟩:=Sg (S:=S) T;rw[W]at f;obtain rfl:=oI f;intro v N;obtain⟨l,o,C,s⟩:=Sd (S:=S) (v:=v) (B:=B);refine⟨l,o,by omega,λx y i j=>?_⟩;rw[O];have U:∀q,q<M.bK.length->vC S (ck.Gz S (eN S M)) M.bK.length (jc S M x y i j) q=S.cx (λp=>S.mul (bU (aq S) B q p) (jc S M x y i j p)) M.bK.length:=λq w=>by
    have Z:=GB (S:=S) (a:=ck.Gz S (eN S M)) (b:=bU (aq S) A) (n:=M.bK.length) (c:=jc S M x y i j) (d:=jc S M x y i j) (λi j z Y=>by rw[R i j z Y,IV]) (λ_ _=>rfl) q w;rw[Z];have X:∀p,p<M.bK.length->S.mul (bU (aq S) B q p) (jc S M x y i j p)=S.add (if q<=p/\p<q+1 then jc S M x y i j p else S.zero) (S.mul (elim S (bU (aq S) A) M.bK.length q p) (jc S M x y i j p)):=λp hp=>by
     rw[h5 q p (by omega) (by omega),Q];by_cases e:q=p
     ·rw[if_pos e,if_pos (by omega),add_mul,S.one_mul]
     ·rw[if_neg e,if_neg (by omega),S.zero_add]
    rw[aI X,iJ,sy (jc S M x y i j) (by omega:q+1<=M.bK.length)];show S.add (jc S M x y i j q) _=S.add (S.add S.zero (jc S M x y i j (q+0))) _;rw[S.zero_add];rfl
   unfold dot;rw[aI λq w=>by rw[U q w]];rw[aI (g:=λq=>S.cx (λp=>S.mul (S.mul (vec S v q) (bU (aq S) B q p)) (jc S M x y i j p)) M.bK.length) λq _=>by
    rw[<-yZ];exact aI λp _=>(S.mul_assoc _ _ _).symm]
   rw[zb]
   grind[aI,ve]
 ·next J=>
  obtain rfl:=oI f;intro v N;refine⟨v,rfl,N,λx y i j=>?_⟩;unfold dot;refine aI λq w=>?_;congr 1;rw[O,wW];rw[aI (g:=λ_=>S.zero) λl _=>by
   rw[IV];have:zu S M q l=S.zero:=by
    unfold zu;rw[fs (g:=λ_=>S.zero) λa V=>?_,oE];rw[if_neg];rintro⟨c1,c2,_⟩;refine J ?_;unfold oK;refine List.any_eq_true.2 ⟨M.bK.getD q dQ,?_,List.any_eq_true.2 ⟨a,V,by grind⟩⟩;rcases tp (M:=M) q with e|e
    ·grind
    ·exact e
   rw[this,S.zero_mul]]
  rw[hK,add_zero]
theorem Cs{x:List Int}(c:∀s∈x,s≠0)(i:Nat)(s:Int)(b:Nat)(d:b<=1)(g:i+b<=x.length)(a:s=bP x i b):lJ s (x.drop i)=some (x.drop (i+b)):=by
 unfold bP at a;by_cases e:b=1
 ·subst e;rw[if_pos rfl]at a;have f:x.drop i=x.getD i 0::x.drop (i+1):=by
   rw[gD,gE (by omega)];exact drop_eq_getElem_cons (by omega)
  have h:s≠0:=by
   rw[a,gD,gE (by omega)];exact c _ (getElem_mem _)
  simp_all[lJ]
 ·rw[if_neg e]at a;obtain rfl:b=0:=by omega
  simp_all[lJ]
theorem uA{x:List Int}(f:∀s∈x,s≠0){i:Nat}(g:i<=x.length){s:Int}(h:lJ s (x.drop i)=some p):∃b,b<=1/\i+b<=x.length/\s=bP x i b/\p=x.drop (i+b)/\(b=0↔s=0):=by
 unfold lJ at h;split at h
 ·next e=>
  obtain rfl:=oI h;exact⟨0,by omega,by omega,by simp_all[bP],rfl,⟨λ_=>e,λ_=>rfl⟩⟩
 ·next e=>
  by_cases a:i<x.length
  ·have d:x.drop i=x.getD i 0::x.drop (i+1):=by
    rw[gD,gE a];exact drop_eq_getElem_cons a
   rw[d]at h;dsimp only at h;split at h
   ·next c=>
    obtain rfl:=oI h;exact⟨1,by omega,by omega,by unfold bP;rw[if_pos rfl];exact c.symm,rfl,⟨λh=>by omega,λh=>absurd h e⟩⟩
   ·cases h
  grind
theorem abT{b c:Nat}{P:Prop}(a:b<=1)(f:c<=1)(d:b=0↔P)(e:c=0↔P):b=c:=by grind
noncomputable def ke(S:bh K)(M:gj K)(x y:List Int)(i j:Nat)(a:jq K)(k:Nat):K:=
 if x.length<i+k%2\/y.length<j+k/2 then S.zero else if a.i=bP x i (k%2)/\a.o=bP y j (k/2)then S.mul a.w (GV S M x y (i+k%2) (j+k/2) a.t)else S.zero
theorem go_eq{M:gj K}{x:List Int}(m:∀s∈x,s≠0)(t:∀s∈p,s≠0){i j:Nat}(r:i<=x.length)(u:j<=p.length)(a:jq K):ck.go S (ck.val S (eN S M)) (x.drop i) (p.drop j) ⟨a.i,a.o,a.w,a.t⟩=S.cx (λk=>ke S M x p i j a (1+k)) 3:=by
 have F:∀{x:List Int}{i b:Nat},(∀s∈x,s≠0)->b<=1->i+b<=x.length->(bP x i b=0↔b=0):=λ{x i b} m L r=>by
  unfold bP
  grind
 have J:∀k,k=1\/k=2\/k=3->ke S M x p i j a k≠S.zero->i+k%2<=x.length/\j+k/2<=p.length/\a.i=bP x i (k%2)/\a.o=bP p j (k/2):=λk _ h=>by simp_all[ke]
 show(if a.i=0/\a.o=0 then S.zero else match lJ a.i (x.drop i),lJ a.o (p.drop j)with|some l,some g=>S.mul a.w (ck.val S (eN S M) l g a.t)|_,_=>S.zero)=S.add (S.add (S.add S.zero (ke S M x p i j a 1)) (ke S M x p i j a 2)) (ke S M x p i j a 3);rw[S.zero_add];have d:∀k,k=1\/k=2\/k=3->¬((k%2=0↔a.i=0)/\(k/2=0↔a.o=0))->ke S M x p i j a k=S.zero:=λk C N=>Classical.byContradiction λc=>by grind
 have e:∀k,k=1\/k=2\/k=3->(k%2=0↔a.i=0)->(k/2=0↔a.o=0)->ke S M x p i j a k=(match lJ a.i (x.drop i),lJ a.o (p.drop j)with|some l,some g=>S.mul a.w (ck.val S (eN S M) l g a.t)|_,_=>S.zero):=λk C O P=>by
  unfold ke;split
  ·next c=>
   cases n:lJ a.i (x.drop i)with
   |none=>rfl
   | some l=>
    cases o:lJ a.o (p.drop j)with
    |none=>rfl
    |some g=>
     obtain⟨b,G,w,H,E,y⟩:=uA m r n;obtain⟨B,D,z,v,A,I⟩:=uA t u o;omega
  ·next c=>
   split
   ·next f=>
    rw[Cs m i _ _ (by omega) (by omega) f.1,Cs t j _ _ (by omega) (by omega) f.2];rfl
   ·next f=>
    cases n:lJ a.i (x.drop i)with
    |none=>rfl
    | some l=>
     cases o:lJ a.o (p.drop j)with
     |none=>rfl
     |some g=>
      obtain⟨b,G,w,H,E,y⟩:=uA m r n;obtain⟨B,D,z,v,A,I⟩:=uA t u o
      grind
 by_cases q:a.i=0
 ·by_cases f:a.o=0
  ·rw[if_pos ⟨q,f⟩,d 1 (by omega) (by omega),d 2 (by omega) (by omega),d 3 (by omega) (by omega),S.zero_add,S.zero_add]
  ·rw[if_neg λh=>f h.2,d 1 (by omega) (by omega),e 2 (by omega) (by omega) (by omega),d 3 (by omega) (by omega),S.zero_add,add_zero]
 ·by_cases f:a.o=0
  ·rw[if_neg λh=>q h.1,e 1 (by omega) (by omega) (by omega),d 2 (by omega) (by omega),d 3 (by omega) (by omega),add_zero,add_zero]
  ·rw[if_neg λh=>q h.1,d 1 (by omega) (by omega),d 2 (by omega) (by omega),e 3 (by omega) (by omega) (by omega),S.zero_add,S.zero_add]
end
variable{i:Nat}{m:Nat}{n:Nat}{j:Nat}
section
variable {K:Type} {S:bh K}
structure oJ(M:gj K)(x y:List Int)(T:List (List (List K))):Prop where
 len:T.length=x.length+1
 row:∀i,i<=x.length->(T.getD i []).length=y.length+1
 cell:∀i j,i<=x.length->j<=y.length->(dP T i j).length=M.bK.length
theorem wj{l:List A}(a:i<l.length)(v d:A)(j:Nat):(l.set i v).getD j d=if j=i then v else l.getD j d:=by grind
section
variable {M:gj K} {x y:List Int} {T:List (List (List K))}
theorem oJ.zF(s:oJ M x y T){i j:Nat}(d:i<=x.length)(f:j<=y.length)(v:List K)(a b:Nat):dP (fp T i j v) a b=if a=i/\b=j then v else dP T a b:=by
 unfold dP fp;rw[wj (by rw[s.len];omega)];by_cases e:a=i
 ·subst e;rw[if_pos rfl,wj (by rw[s.row a d];omega)];by_cases c:b=j
  ·rw[if_pos c,if_pos ⟨rfl,c⟩]
  ·rw[if_neg c,if_neg λh=>c h.2]
 grind
theorem oJ.set(s:oJ M x y T){i j:Nat}(d:i<=x.length)(f:j<=y.length){v:List K}(g:v.length=M.bK.length):oJ M x y (fp T i j v):=by
 refine⟨by unfold fp;rw[length_set];exact s.len,λa c=>?_,λa b c e=>?_⟩
 ·unfold fp;rw[wj (by rw[s.len];omega)];split
  ·rw[length_set];exact s.row i d
  ·exact s.row a c
 ·rw[s.zF d f];split
  ·omega
  ·exact s.cell a b c e
noncomputable def zo(S:bh K)(M:gj K)(x y:List Int)(T:List (List (List K)))(a b:Nat):K:=dot S (vec S (dP T a b)) (GV S M x y a b) M.bK.length
noncomputable def iN(S:bh K)(M:gj K)(x y:List Int)(T:List (List (List K)))(i j:Nat):K:=S.cx (λa=>S.cx (λb=>if i<a\/(a=i/\j<=b)then zo S M x y T a b else S.zero) (y.length+1)) (x.length+1)
theorem rk{p q:Nat}(i:p<m)(f:q<n)(c:K):S.cx (λa=>S.cx (λb=>if a=p/\b=q then c else S.zero) n) m=c:=by
 have d:∀a,S.cx (λb=>if a=p/\b=q then c else S.zero) n=if p<=a/\a<p+1 then c else S.zero:=λa=>by
  by_cases e:a=p
  ·rw[if_pos (by omega),aI (g:=λb=>if q<=b/\b<q+1 then c else S.zero) λb _=>by grind];rw[sy (λ_=>c) (by omega:q+1<=n)];exact S.zero_add c
  ·rw[if_neg (by omega),aI (g:=λ_=>S.zero) λb _=>if_neg λh=>e h.1,hK]
 rw[aI λa _=>d a,sy (λ_=>c) (by omega:p+1<=m)];exact S.zero_add c
theorem CB(f g:Nat->Nat->K)(m n:Nat):S.cx (λa=>S.cx (λb=>S.add (f a b) (g a b)) n) m=S.add (S.cx (λa=>S.cx (f a) n) m) (S.cx (λa=>S.cx (g a) n) m):=by simp[iJ]
theorem IQ(c:i<=x.length)(d:j<=y.length):iN S M x y T i j=S.add (zo S M x y T i j) (iN S M x y T i (j+1)):=by
 unfold iN;rw[<-rk (S:=S) (p:=i) (q:=j) (m:=x.length+1) (n:=y.length+1) (by omega) (by omega) (zo S M x y T i j),<-CB];refine aI λa _=>aI λb _=>?_;by_cases e:a=i/\b=j
 ·simp_all[if_neg,add_zero]
 ·rw[if_neg e,S.zero_add]
  grind
theorem OV{d:List (List (List K))}{p q:Nat}(r:p<=x.length)(l:q<=y.length)(o:i<p\/(p=i/\j<=q)){c:K}(h:∀a b,a<=x.length->b<=y.length->(i<a\/(a=i/\j<=b))->zo S M x y d a b=S.add (zo S M x y T a b) (if a=p/\b=q then c else S.zero)):iN S M x y d i j=S.add (iN S M x y T i j) c:=by
 unfold iN;have e:=rk (S:=S) (p:=p) (q:=q) (m:=x.length+1) (n:=y.length+1) (by omega) (by omega) c
 conv=>rhs;rw[<-e]
 rw[<-CB];refine aI λa k=>aI λb f=>?_;by_cases g:i<a\/(a=i/\j<=b)
 ·grind
 ·rw[if_neg g,if_neg g,if_neg (by omega),add_zero]
theorem IP{c:List (List (List K))}(h:∀a b,a<=x.length->b<=y.length->(i<a\/(a=i/\j<=b))->zo S M x y c a b=zo S M x y T a b):iN S M x y c i j=iN S M x y T i j:=by
 unfold iN;refine aI λa e=>aI λb d=>?_
 grind
theorem Ls(i:Nat):iN S M x y T i (y.length+1)=iN S M x y T (i+1) 0:=by
 unfold iN;refine aI λa d=>aI λb c=>?_
 grind
theorem OU:iN S M x y T (x.length+1) j=S.zero:=by
 unfold iN;rw[aI (g:=λ_=>S.zero) λa c=>?_,hK];rw[aI (g:=λ_=>S.zero) λb _=>if_neg (by omega),hK]
theorem OR(u v w:Nat->K)(n:Nat):dot S (λp=>S.add (u p) (v p)) w n=S.add (dot S u w n) (dot S v w n):=by grind[iJ,aI,add_mul,dot]
theorem IK{u v w:Nat->K}(h:∀p,p<n->u p=v p):dot S u w n=dot S v w n:=aI λi a=>by grind
noncomputable def jr(S:bh K)(M:gj K)(x y:List Int)(v:List K)(i j k:Nat):K:=S.cx (λq=>S.mul (vec S v q) (fL S (λa=>ke S M x y i j a k) (bF M q))) M.bK.length
theorem Lw(g:kP M)(v:List K){i j k:Nat}(r:¬(x.length<i+k%2\/y.length<j+k/2)){s:List K}(n:∀p,p<M.bK.length->vec S s p=S.cx (λq=>fL S (λa=>if gT (bP x i (k%2)) (bP y j (k/2)) p a then S.mul (vec S v q) a.w else S.zero) (bF M q)) M.bK.length):
  dot S (vec S s) (GV S M x y (i+k%2) (j+k/2)) M.bK.length=jr S M x y v i j k:=by
 unfold jr dot;rw[aI (g:=λp=>S.cx (λq=>fL S (λa=>if gT (bP x i (k%2)) (bP y j (k/2)) p a then S.mul (vec S v q) (S.mul a.w (GV S M x y (i+k%2) (j+k/2) a.t))else S.zero) (bF M q)) M.bK.length) λp t=>by
  rw[n p t,<-ve];refine aI λq _=>?_;rw[S.mul_comm,<-yY];refine fs λa _=>?_;by_cases c:gT (bP x i (k%2)) (bP y j (k/2)) p a
  ·rw[if_pos c,if_pos c,c.2.2,S.mul_comm,S.mul_assoc]
  ·rw[if_neg c,if_neg c,mul_zero]]
 rw[zb];refine aI λq u=>?_;rw[<-yY];have e:∀l:List (jq K),(∀a∈l,a.t<M.bK.length)->S.cx (λp=>fL S (λa=>if gT (bP x i (k%2)) (bP y j (k/2)) p a then S.mul (vec S v q) (S.mul a.w (GV S M x y (i+k%2) (j+k/2) a.t))else S.zero) l) M.bK.length=fL S (λa=>S.mul (vec S v q) (ke S M x y i j a k)) l:=λl=>by
  induction l with
  |nil=>intro _;exact hK _
  | cons a l o=>
   intro f;have d:=f a (mem_cons_self ..);show S.cx (λp=>S.add (if gT (bP x i (k%2)) (bP y j (k/2)) p a then _ else S.zero) (fL S _ l)) _=S.add _ _;rw[iJ,o λb m=>f b (List.mem_cons_of_mem _ m)];congr 1;unfold ke;dsimp only;rw[if_neg r];by_cases c:a.i=bP x i (k%2)/\a.o=bP y j (k/2)
   ·rw[if_pos c,aI (g:=λp=>if a.t<=p/\p<a.t+1 then S.mul (vec S v q) (S.mul a.w (GV S M x y (i+k%2) (j+k/2) a.t))else S.zero) λp _=>by
     by_cases e:a.t=p
     ·rw[if_pos ⟨c.1,c.2,e⟩,if_pos (by omega)]
     ·rw[if_neg λh=>e h.2.2,if_neg (by omega)]]
    rw[sy (λ_=>S.mul (vec S v q) (S.mul a.w (GV S M x y (i+k%2) (j+k/2) a.t))) (by omega:a.t+1<=M.bK.length)];exact S.zero_add _
   ·rw[if_neg c,aI (g:=λ_=>S.zero) λp _=>if_neg λh=>c ⟨h.1,h.2.1⟩,hK,mul_zero]
 refine e _ λa d=>?_;unfold bF at d;rcases tp (M:=M) q with e|e
 ·rw[e]at d;cases d
 ·exact g _ e a d
theorem Cw(g:kP M)(s:oJ M x y T){v:List K}(t:v.length=M.bK.length){i j:Nat}(A:i<=x.length)(C:j<=y.length){k:Nat}(B:k=1\/k=2\/k=3):
  ∃h,oO (aq S) M x y v i j T k=some h/\oJ M x y h/\dP h i j=dP T i j/\iN S M x y h i (j+1)=S.add (iN S M x y T i (j+1)) (jr S M x y v i j k):=by
 unfold oO;by_cases c:x.length<i+k%2\/y.length<j+k/2
 ·simp_all[hK,oE,mul_zero,add_zero,jr,ke]
 ·rw[if_neg c];obtain⟨l,n,u,m⟩:=Sh (S:=S) g v (bP x i (k%2)) (bP y j (k/2));rw[n];dsimp only;have f:i+k%2<=x.length:=by omega
  have d:j+k/2<=y.length:=by omega
  obtain⟨r,o,z,D⟩:=Xg (S:=S) (dP T (i+k%2) (j+k/2)) l;rw[o];dsimp only;have p:=s.cell _ _ f d;refine⟨_,rfl,s.set f d (by omega),?_,?_⟩
  ·rw[s.zF f d,if_neg (by omega)]
  ·refine OV f d (by omega) λa b w q _=>?_;unfold zo;rw[s.zF f d];by_cases e:a=i+k%2/\b=j+k/2
   ·rw[if_pos e,if_pos e,e.1,e.2,<-Lw g v c m,<-OR]
    grind[IK]
   ·rw[if_neg e,if_neg e,add_zero]
theorem Xe(g:kP M)(A:∀s∈x,s≠0)(N:∀s∈y,s≠0){B:Option (List (List K))}(t:dX (aq S) M=some B)(s:oJ M x y T){i j:Nat}(d:i<=x.length)(e:j<=y.length):
  ∃l,mV (aq S) M B x y i T j=some l/\oJ M x y l/\iN S M x y T i j=S.add (if i=x.length/\j=y.length then dot S (vec S (dP l i j)) (eN S M).fin M.bK.length else S.zero) (iN S M x y l i (j+1)):=by
 obtain⟨v,U,m,u⟩:=Lv g t (dP T i j) (s.cell i j d e);have F:=s.set d e m;obtain⟨Q,Y,r,J,G⟩:=Cw (S:=S) g F m d e (k:=1) (.inl rfl);obtain⟨V,W,w,o,D⟩:=Cw (S:=S) g r m d e (k:=2) (.inr (.inl rfl));obtain⟨n,P,C,p,L⟩:=Cw (S:=S) g w m d e (k:=3) (.inr (.inr rfl));refine⟨n,?_,C,?_⟩
 ·simp_all[mV,bd]
 ·rw[IQ d e];have H:iN S M x y (fp T i j v) i (j+1)=iN S M x y T i (j+1):=IP λa b _ _ h=>by
   unfold zo;rw[s.zF d e,if_neg (by omega)]
  have z:dP n i j=v:=by rw[p,o,J,s.zF d e,if_pos ⟨rfl,rfl⟩]
  rw[L,D,G,H,z];have I:zo S M x y T i j=S.add (if i=x.length/\j=y.length then dot S (vec S v) (eN S M).fin M.bK.length else S.zero) (S.add (S.add (jr S M x y v i j 1) (jr S M x y v i j 2)) (jr S M x y v i j 3)):=by
   unfold zo;rw[u x y i j];have E:∀q,jc S M x y i j q=S.add (if i=x.length/\j=y.length then(eN S M).fin q else S.zero) (S.add (S.add (fL S (λa=>ke S M x y i j a 1) (bF M q)) (fL S (λa=>ke S M x y i j a 2) (bF M q))) (fL S (λa=>ke S M x y i j a 3) (bF M q))):=λq=>by
    show S.add (if x.drop i=[]/\y.drop j=[]then(eN S M).fin q else S.zero) (fL S (ck.go S (ck.val S (eN S M)) (x.drop i) (y.drop j)) ((bF M q).map λa=>⟨a.i,a.o,a.w,a.t⟩))=_;rw[qU,fs λa _=>go_eq A N d e a];congr 1
    ·by_cases c:i=x.length/\j=y.length
     ·grind
     ·rw[if_neg c,if_neg]
      grind[List.drop_eq_nil_iff]
    ·show fL S (λa=>S.add (S.add (S.add S.zero (ke S M x y i j a 1)) (ke S M x y i j a 2)) (ke S M x y i j a 3)) _=_;rw[fs (g:=λa=>S.add (S.add (ke S M x y i j a 1) (ke S M x y i j a 2)) (ke S M x y i j a 3)) λa _=>by rw[S.zero_add],D6,D6]
   unfold dot jr;rw[aI λq _=>by rw[E q,S.mul_add,S.mul_add,S.mul_add],iJ,iJ,iJ];congr 1;by_cases c:i=x.length/\j=y.length
   ·grind
   ·rw[if_neg c,aI (g:=λ_=>S.zero) λq _=>by rw[if_neg c,mul_zero],hK]
  rw[I];generalize iN S M x y T i (j+1)=R;generalize jr S M x y v i j 1=X;generalize jr S M x y v i j 2=Z;generalize jr S M x y v i j 3=O;generalize (if i=x.length/\j=y.length then dot S (vec S v) (eN S M).fin M.bK.length else S.zero)=f;rw[S.add_assoc f];congr 1;rw[S.add_comm,<-S.add_assoc,<-S.add_assoc]
theorem NM(g:kP M)(d:∀s∈x,s≠0)(f:∀s∈y,s≠0){B:Option (List (List K))}(b:dX (aq S) M=some B){i:Nat}(e:i<=x.length):∀(m j:Nat)(T:List (List (List K))),j+m=y.length+1->oJ M x y T->
  ∃a,bd (mV (aq S) M B x y i) m j T=some a/\oJ M x y a/\(0<m->iN S M x y T i j=S.add (if i=x.length then dot S (vec S (dP a x.length y.length)) (eN S M).fin M.bK.length else S.zero) (iN S M x y a (i+1) 0))
 |0,j,T,k,s=>⟨T,rfl,s,λh=>absurd h (lt_irrefl 0)⟩
 | m+1,j,T,k,s=>by
  obtain⟨l,t,p,n⟩:=Xe g d f b s e (show j<=y.length by omega);obtain⟨o,q,r,u⟩:=NM g d f b e m (j+1) l (by omega) p;refine⟨o,by grind[bd],r,λ_=>?_⟩;rw[n];by_cases c:m=0
  ·subst c;obtain rfl:=oI q
   simp_all[Ls]
  ·rw[if_neg (by omega),S.zero_add]
   grind
theorem IS(g:kP M)(d:∀s∈x,s≠0)(e:∀s∈y,s≠0){B:Option (List (List K))}(b:dX (aq S) M=some B):∀(m i:Nat)(T:List (List (List K))),i+m=x.length+1->oJ M x y T->
  ∃a,bd (rh (aq S) M B x y) m i T=some a/\oJ M x y a/\(0<m->iN S M x y T i 0=dot S (vec S (dP a x.length y.length)) (eN S M).fin M.bK.length)
 |0,i,T,f,s=>⟨T,rfl,s,λh=>absurd h (lt_irrefl 0)⟩
 | m+1,i,T,f,s=>by
  obtain⟨j,q,n,k⟩:=NM g d e b (show i<=x.length by omega) (y.length+1) 0 T (by omega) s;obtain⟨l,o,p,r⟩:=IS g d e b m (i+1) j (by omega) n;refine⟨l,by grind[bd,rh],p,λ_=>?_⟩;rw[k (by omega)];by_cases c:m=0
  ·subst c;obtain rfl:=oI o
   simp_all[OU,add_zero]
  ·rw[if_neg (by omega),S.zero_add]
   grind
end
theorem LA{M:gj K}{x y:List Int}(g:kP M)(C:M.start<M.bK.length)(t:∀s∈x,s≠0)(A:∀s∈y,s≠0){w:K}(h:eE (aq S) M x y=some w):w=S.mul M.lead (ck.val S (eN S M) x y M.start):=by
 unfold eE at h
 cases k:dX (aq S) M with
 |none=>grind
 | some B=>
  rw[k]at h;dsimp only at h;have m:(bw (aq S) M.bK.length).length=M.bK.length:=length_replicate;have f:oJ M x y (List.replicate (x.length+1) (List.replicate (y.length+1) (bw (aq S) M.bK.length))):=by
   have e:∀i,i<=x.length->(List.replicate (x.length+1) (List.replicate (y.length+1) (bw (aq S) M.bK.length))).getD i []=List.replicate (y.length+1) (bw (aq S) M.bK.length):=λi d=>by
    rw[gD,List.getElem?_replicate,if_pos (by omega)];rfl
   refine⟨length_replicate,λi d=>by rw[e i d];exact length_replicate,λi j d D=>?_⟩;unfold dP;rw[e i d,gD,List.getElem?_replicate,if_pos (by omega)];exact m
  have z:oJ M x y (kh (aq S) M x y):=f.set (Nat.zero_le _) (Nat.zero_le _) (by rw[length_set];exact m);obtain⟨T,u,l,r⟩:=IS g t A k (x.length+1) 0 (kh (aq S) M x y) (by omega) z;rw[u]at h;dsimp only at h;rw[Xc M _ (l.cell _ _ (Nat.le_refl _) (Nat.le_refl _)),l.cell _ _ (Nat.le_refl _) (Nat.le_refl _),<-r (by omega)]at h;obtain rfl:=oI h;have o:∀a b,a<=x.length->b<=y.length->zo S M x y (kh (aq S) M x y) a b=if a=0/\b=0 then S.mul M.lead (ck.val S (eN S M) x y M.start)else S.zero:=λa b v n=>by
   unfold zo kh;rw[f.zF (Nat.zero_le _) (Nat.zero_le _)];by_cases c:a=0/\b=0
   ·rw[if_pos c,if_pos c,c.1,c.2];unfold dot;rw[aI (g:=λq=>if M.start<=q/\q<M.start+1 then S.mul M.lead (ck.val S (eN S M) x y q)else S.zero) λq _=>by
     have:=uF (S:=S) (p:=q) M.lead (show M.start<(bw (aq S) M.bK.length).length by omega);rw[this];by_cases e:q=M.start
     ·rw[if_pos e,if_pos (by omega)];rfl
     ·rw[if_neg e,if_neg (by omega)];have:vec S (bw (aq S) M.bK.length) q=S.zero:=qI _ _;rw[this,S.zero_mul]]
    rw[sy (λq=>S.mul M.lead (ck.val S (eN S M) x y q)) (by omega:M.start+1<=M.bK.length)];exact S.zero_add _
   ·rw[if_neg c,if_neg c];unfold dot;rw[aI (g:=λ_=>S.zero) λq _=>?_,hK];unfold dP;have e:(List.replicate (x.length+1) (List.replicate (y.length+1) (bw (aq S) M.bK.length))).getD a []=List.replicate (y.length+1) (bw (aq S) M.bK.length):=by
     rw[gD,List.getElem?_replicate,if_pos (by omega)];rfl
    rw[e,gD,List.getElem?_replicate,if_pos (by omega)];have:vec S (bw (aq S) M.bK.length) q=S.zero:=qI _ _;show S.mul (vec S (bw (aq S) M.bK.length) q) _=_;rw[this,S.zero_mul]
  unfold iN;rw[aI (g:=λa=>S.cx (λb=>if a=0/\b=0 then S.mul M.lead (ck.val S (eN S M) x y M.start)else S.zero) (y.length+1)) λa v=>aI λb n=>by rw[if_pos (by omega),o a b (by omega) (by omega)]];simp[rk]
end
end Go.Num
end
section
namespace Go.Proofs.YtaaichlgdgjgjaaGreatDoor
open Go Go.Ab Go.RowKit
theorem XY:(((Tryz.prog.funcs.toList.drop 0).take 40).all λf=>fK f)=true:=by kernel_rfl
theorem XZ:(((Tryz.prog.funcs.toList.drop 40).take 40).all λf=>fK f)=true:=by kernel_rfl
theorem X5:(((Tryz.prog.funcs.toList.drop 80).take 40).all λf=>fK f)=true:=by kernel_rfl
theorem X6:(((Tryz.prog.funcs.toList.drop 120).take 40).all λf=>fK f)=true:=by kernel_rfl
theorem X7:(((Tryz.prog.funcs.toList.drop 160).take 40).all λf=>fK f)=true:=by kernel_rfl
theorem X8:(((Tryz.prog.funcs.toList.drop 200).take 40).all λf=>fK f)=true:=by kernel_rfl
theorem X9:(((Tryz.prog.funcs.toList.drop 240).take 40).all λf=>fK f)=true:=by kernel_rfl
theorem PG:Tryz.prog.funcs.toList.length=259:=by kernel_rfl
theorem Tl(i:Nat)(c:Func)(h:Tryz.prog.funcs.toList[i]?=some c):fK c=true:=by
 have b:∀a,((Tryz.prog.funcs.toList.drop a).take 40).all (λf=>fK f)=true->a<=i->i<a+40->fK c=true:=λa g d e=>by
  refine all_eq_true.1 g c (List.mem_of_getElem? (i:=i-a) ?_);rw[List.getElem?_take,if_pos (by omega),List.getElem?_drop,show a+(i-a)=i by omega];exact h
 have j:i<259:=by
  have:=(List.getElem?_eq_some_iff.1 h).1;rw[PG]at this;exact this
 by_cases m:i<40
 ·exact b 0 XY (by omega) (by omega)
 by_cases d:i<80
 ·exact b 40 XZ (by omega) (by omega)
 by_cases e:i<120
 ·exact b 80 X5 (by omega) (by omega)
 by_cases k:i<160
 ·exact b 120 X6 (by omega) (by omega)
 by_cases l:i<200
 ·exact b 160 X7 (by omega) (by omega)
 by_cases n:i<240
 ·exact b 200 X8 (by omega) (by omega)
 exact b 240 X9 (by omega) (by omega)
theorem Qi:(Tryz.prog.funcs.toList.all λf=> !(f.name == "runtime.NumGoroutine"))=true:=by kernel_rfl
theorem OJ:Ha Tryz.prog:={
 names:=λ_ a h=>by
  have b:a∈Tryz.prog.funcs.toList:=by
   rw[<-Array.getElem?_toList]at h;exact List.mem_of_getElem? h
  have:=all_eq_true.1 Qi a b;simpa using this
 Z8:=λf a h=>Tl f a (by rw[Array.getElem?_toList];exact h) }
def Nc:Code->Code
 |.seq a _=>a
 |c=>c
def Ie:Code->Code
 |.seq _ b=>b
 |c=>c
noncomputable def FM:Code:=(Tryz.f166.body).getD .skip
theorem Hs(a:Array Value)(w:World)(h:a.size=2):CallsDIn Fence.wide 0 Tryz.prog 183 a .returning w λe c b=>(∃v,e = .returned v)/\c = .returning/\Below w.heap.size w b/\w.drawn<=b.drawn:=
 Ye (n:=2) Tryz.func183 rfl rfl (by kernel_rfl) a w h
end Go.Proofs.YtaaichlgdgjgjaaGreatDoor
end
section
namespace Go.Proofs.YtaaichlgdgjgjaaGreatDoor
open Go Go.Ab Go.Num
def WY:Nat->Bool:=λg=>Nat.beq g 1
noncomputable def prS:FuncId->Option vk:=λf=>Ta (Nat.beq f 81) (some DV) (Ta (Nat.beq f 222) (some qS) (Ta (Nat.beq f 226) (some pz) (Ta (Nat.beq f 166) (some (wV Tryz.prog WY Tryz.f166 (Nc FM) (Ie (Ie FM)) 5)) none)))
noncomputable def SS:Sx:=⟨Tryz.prog,WY,prS⟩
theorem aeQ:aF Tryz.prog 22=some 1:=by kernel_rfl
abbrev lI(h:ae)(p:Addr)(K:Int->Prop):Prop:=xI .i64 (aj SS.P 3 h (.pointer (some p))) K
abbrev lS(h:ae)(p:Addr)(K:List UInt8->Prop):Prop:=xS (aj SS.P 9 h (.pointer (some p))) K
abbrev lB(h:ae)(p:Addr)(K:Bool->Prop):Prop:=xB (aj SS.P 4 h (.pointer (some p))) K
abbrev lL(t:TypeId)(h:ae)(p:Addr)(K:Option Addr->Nat->Nat->Prop):Prop:=xL (aj SS.P t h (.pointer (some p))) K
abbrev lA(t:TypeId)(h:ae)(v:Value)(K:List Value->Prop):Prop:=xA (aj SS.P t h v) K
abbrev fP(t:TypeId)(v:Value)(i:Nat)(K:Addr->Prop):Prop:=xP (aE SS.P t v i) K
abbrev iP(t:TypeId)(v i:Value)(K:Addr->Prop):Prop:=xP (aA SS.P t v i) K
variable{s:List UInt8}{t:List UInt8}{z:Int}{v:Value}{w:Value}{h:ae}{Q:VH}{b:Bool}
noncomputable def Py:FD:=cI Tryz.f191 []
theorem LX(l m:LB)(h:ae)(Q:VH)(e:FW SS 204 [(strOf l),(strOf m)] h λc d=>yB c λb=>au (!b) (Q (.tuple ⟨[(strOf l),(.bool false)]⟩) d) (xS (bG SS.P 9 (strOf l) (some (.int .i64 ((m:LB).length:Int))) none none d) λa=>Q (.tuple ⟨[(strOf a),(.bool true)]⟩) d)):FW SS 191 [(strOf l),(strOf m)] h Q:=cN Py Tryz.func191 (ai e)
noncomputable def Ti:FD:=cI Tryz.f177 []
theorem Pz(l m:LB)(h:ae)(Q:VH)(e:FW SS 191 [(strOf l),(strOf m)] h λc d=>∃b:LB,∃a:Bool,c=(.tuple ⟨[(strOf b),(.bool a)]⟩)/\Q (.tuple ⟨[(strOf b),(.bool a)]⟩) d):FW SS 177 [(strOf l),(strOf m)] h Q:=cN Ti Tryz.func177 (ai e)
noncomputable def Mf:FD:=cI Tryz.f214 []
theorem JN(l:LB)(c:Int)(h:ae)(Q:VH)(d:FW SS 226 [(strOf l),(.int .u8 c)] h λb c=>yI .i64 b λa=>Q (.int .i64 a) c):FW SS 214 [(strOf l),(.int .u8 c)] h Q:=cN Mf Tryz.func214 (ai d)
noncomputable def TN:FD:=cI Tryz.f205 []
theorem PL(l:LB)(h:ae)(Q:VH)(e:au (([47]:LB)==l) (Q (.int .i64 0) h) (xI .u8 (bR SS.P 9 (strOf [47]) (.int .i64 0)) λd=>FW SS 214 [(strOf l),(.int .u8 d)] h λb c=>yI .i64 b λa=>Q (.int .i64 a) c)):FW SS 205 [(strOf l),(strOf [47])] h Q:=cN TN Tryz.func205 (ai e)
noncomputable def aaV:FD:=cI Tryz.f192 []
theorem XS(l:LB)(h:ae)(Q:VH)(f:FW SS 205 [(strOf l),(strOf [47])] h λd e=>yI .i64 d λc=>au (decide ((c:Int)>=0)) (xS (bG SS.P 9 (strOf l) none (some (.int .i64 c)) none (room e 12)) λb=>xS (bG SS.P 9 (strOf l) (some (.int .i64 (wrap .i64 (c+1)))) none none (room e 12)) λa=>Q (.tuple ⟨[(strOf b),(strOf a),(.bool true)]⟩) (room e 12)) (Q (.tuple ⟨[(strOf l),(strOf []),(.bool false)]⟩) e)):FW SS 192 [(strOf l),(strOf [47])] h Q:=cN aaV Tryz.func192 (ai f)
noncomputable def acP:FD:=cI Tryz.f178 []
theorem aaW(l:LB)(h:ae)(Q:VH)(f:FW SS 192 [(strOf l),(strOf [47])] h λd e=>∃c:LB,∃b:LB,∃a:Bool,d=(.tuple ⟨[(strOf c),(strOf b),(.bool a)]⟩)/\Q (.tuple ⟨[(strOf c),(strOf b),(.bool a)]⟩) e):FW SS 178 [(strOf l),(strOf [47])] h Q:=cN acP Tryz.func178 (ai f)
noncomputable def jH:FD:=cI Tryz.f116 [([1,0,1,0,0],[0,1,5])]
abbrev jj(l:LB)(c:Int)(i:Nat):LV:=[(strOf l),(.int .u8 c),(iA i)]
theorem HZ(l:LB)(c:Int)(h:ae)(Q:VH)(a:LL SS jH [1,0,1,0,0] (jj l c 0) h (KK SS jH [1,0,1,0] [] (EE SS jH Q))):FW SS 116 [(strOf l),(.int .u8 c)] h Q:=cN jH Tryz.func116 (ai a)
theorem tY(l:LB)(c:Int)  (d:Nat->Nat->ae->Prop) (Q:VH) (step:∀(b:Nat)(i:Nat)(f:Nat->Value)(h:ae),d b i h->au (decide (((i:Int):Int)<((l:LB).length:Int))) (xI .u8 (bR SS.P 9 (strOf l) (iA i)) λa=>au (((a:Int)==c)) (Q (iA i) h) (aJ (fm (jj l c) d) b [(strOf l),(.int .u8 c),(.int .i64 (wrap .i64 ((i:Int)+1)))] h)) (Q (.int .i64 (-1)) h)) (b:Nat) {i:Nat} {h:ae} (e:d b i h):LL SS jH [1,0,1,0,0] (jj l c i) h (KK SS jH [1,0,1,0] [] (EE SS jH Q)):=
 dg (jj l c) d (λb i f h e=>ai (step b i f h e)) b e
noncomputable def Ks:FD:=cI Tryz.f117 []
theorem H3(l:LB)(h:ae)(Q:VH)(d:au (decide ((((l:LB).length:Int):Int)<=400)) (FW SS 136 [(strOf l)] h λb c=>yB b λa=>Q (.bool a) c) (Q (.bool false) h)):FW SS 117 [(strOf l)] h Q:=cN Ks Tryz.func117 (ai d)
noncomputable def aw:FD:=cI Tryz.f94 []
abbrev A9(l:LB)(cc:Code)(h:ae)(Q:VH):Prop:=au (decide ((((l:LB).length:Int):Int)>0)) (xI .u8 (bR SS.P 9 (strOf l) (.int .i64 0)) λc=>au (((c:Int)==45)) (xS (bG SS.P 9 (strOf l) (some (.int .i64 1)) none none h) λe=>FW SS 116 [(strOf e),(.int .u8 47)] h λr g=>yI .i64 r λd=>au (decide ((d:Int)>=0)) (xS (bG SS.P 9 (strOf e) (some (.int .i64 (wrap .i64 (d+1)))) none none g) λp=>xS (bG SS.P 9 (strOf e) none (some (.int .i64 d)) none g) λo=>wpS SS aw.nm aw.ms [1,1,1,1,1,1] cc (uN [(strOf l),undef,(.bool false),(strOf []),(strOf []),(.bool false),(strOf o),(strOf p),(.bool (((c:Int)==45))),(.int .i64 d),undef,undef,(strOf l),(strOf l),(.int .i64 ((l:LB).length:Int)),(.bool (decide ((((l:LB).length:Int):Int)>0))),(.bool true),(strOf l),(.int .u8 c),(.bool (((c:Int)==45))),(.bool (((c:Int)==45))),(.bool (((c:Int)==45))),(strOf l),(strOf e),(strOf e),(.int .i64 d),(.int .i64 d),(.bool (decide ((d:Int)>=0))),(strOf e),(.int .i64 d),(.int .i64 (wrap .i64 (d+1))),(strOf p),(strOf e),(.int .i64 d),(strOf o)] 46) g (EE SS aw Q)) (wpS SS aw.nm aw.ms [1,1,1,1,1,1] cc (uN [(strOf l),undef,(.bool false),(strOf []),(strOf []),(.bool false),(strOf e),(strOf [49]),(.bool (((c:Int)==45))),(.int .i64 d),undef,undef,(strOf l),(strOf l),(.int .i64 ((l:LB).length:Int)),(.bool (decide ((((l:LB).length:Int):Int)>0))),(.bool true),(strOf l),(.int .u8 c),(.bool (((c:Int)==45))),(.bool (((c:Int)==45))),(.bool (((c:Int)==45))),(strOf l),(strOf e),(strOf e),(.int .i64 d),(.int .i64 d),(.bool (decide ((d:Int)>=0)))] 53) g (EE SS aw Q))) (FW SS 116 [(strOf l),(.int .u8 47)] h λs i=>yI .i64 s λb=>au (decide ((b:Int)>=0)) (xS (bG SS.P 9 (strOf l) (some (.int .i64 (wrap .i64 (b+1)))) none none i) λn=>xS (bG SS.P 9 (strOf l) none (some (.int .i64 b)) none i) λk=>wpS SS aw.nm aw.ms [1,1,1,1,1,1] cc (uN [(strOf l),undef,(.bool false),(strOf []),(strOf []),(.bool false),(strOf k),(strOf n),(.bool (((c:Int)==45))),(.int .i64 b),undef,undef,(strOf l),(strOf l),(.int .i64 ((l:LB).length:Int)),(.bool (decide ((((l:LB).length:Int):Int)>0))),(.bool true),(strOf l),(.int .u8 c),(.bool (((c:Int)==45))),(.bool (((c:Int)==45))),(.bool (((c:Int)==45))),undef,undef,(strOf l),(.int .i64 b),(.int .i64 b),(.bool (decide ((b:Int)>=0))),(strOf l),(.int .i64 b),(.int .i64 (wrap .i64 (b+1))),(strOf n),(strOf l),(.int .i64 b),(strOf k)] 46) i (EE SS aw Q)) (wpS SS aw.nm aw.ms [1,1,1,1,1,1] cc (uN [(strOf l),undef,(.bool false),(strOf []),(strOf []),(.bool false),(strOf l),(strOf [49]),(.bool (((c:Int)==45))),(.int .i64 b),undef,undef,(strOf l),(strOf l),(.int .i64 ((l:LB).length:Int)),(.bool (decide ((((l:LB).length:Int):Int)>0))),(.bool true),(strOf l),(.int .u8 c),(.bool (((c:Int)==45))),(.bool (((c:Int)==45))),(.bool (((c:Int)==45))),undef,undef,(strOf l),(.int .i64 b),(.int .i64 b),(.bool (decide ((b:Int)>=0)))] 53) i (EE SS aw Q)))) (FW SS 116 [(strOf l),(.int .u8 47)] h λq f=>yI .i64 q λa=>au (decide ((a:Int)>=0)) (xS (bG SS.P 9 (strOf l) (some (.int .i64 (wrap .i64 (a+1)))) none none f) λm=>xS (bG SS.P 9 (strOf l) none (some (.int .i64 a)) none f) λj=>wpS SS aw.nm aw.ms [1,1,1,1,1,1] cc (uN [(strOf l),undef,(.bool false),(strOf []),(strOf []),(.bool false),(strOf j),(strOf m),(.bool false),(.int .i64 a),undef,undef,(strOf l),(strOf l),(.int .i64 ((l:LB).length:Int)),(.bool (decide ((((l:LB).length:Int):Int)>0))),(.bool false),undef,undef,undef,(.bool false),(.bool false),undef,undef,(strOf l),(.int .i64 a),(.int .i64 a),(.bool (decide ((a:Int)>=0))),(strOf l),(.int .i64 a),(.int .i64 (wrap .i64 (a+1))),(strOf m),(strOf l),(.int .i64 a),(strOf j)] 46) f (EE SS aw Q)) (wpS SS aw.nm aw.ms [1,1,1,1,1,1] cc (uN [(strOf l),undef,(.bool false),(strOf []),(strOf []),(.bool false),(strOf l),(strOf [49]),(.bool false),(.int .i64 a),undef,undef,(strOf l),(strOf l),(.int .i64 ((l:LB).length:Int)),(.bool (decide ((((l:LB).length:Int):Int)>0))),(.bool false),undef,undef,undef,(.bool false),(.bool false),undef,undef,(strOf l),(.int .i64 a),(.int .i64 a),(.bool (decide ((a:Int)>=0)))] 53) f (EE SS aw Q)))
theorem H2(l:LB)(h:ae)(Q:VH)(a:A9 l (fM [1,1,1,1,1,1] aw.body) h Q):FW SS 94 [(strOf l)] h Q:=by
 have e:∀cc,A9 l cc h Q=wpS SS aw.nm aw.ms [] (setAt [1,1,1,1,1,1] cc aw.body) ([(strOf l)]++List.replicate (aw.nm-([(strOf l)]:LV).length) undef) h (EE SS aw Q):=λcc=>by kernel_rfl
 have e:=e (fM [1,1,1,1,1,1] aw.body);rw[iW]at e;exact cN aw Tryz.func94 (ai a e)
abbrev tZ(n d:LB)(neg:Bool)(a:Int)(cc:Code)(Z x1 X x3 Y W K L m H x P U G O M o l k w z V J B s I D p S i j x7 y9 u5 u4 y8 y3 y1 y6 z2 y0 x9 u0 u6 u3 z4 u2 z5 y5 x8 z9 x6 u1 z6 z7 y7 z8 y4 z1 z3 z0 y2 q t C r u A T E F y f g v N R:Value)(h:ae)(Q:VH):Prop:=FW SS 117 [(strOf n)] h λv1 h2=>yB v1 λe=>au (!e) (Q (.tuple ⟨[(.bool false),(strOf []),(strOf []),(.bool false)]⟩) h2) (FW SS 117 [(strOf d)] h2 λv4 c=>yB v4 λb=>au (!b) (Q (.tuple ⟨[(.bool false),(strOf []),(strOf []),(.bool false)]⟩) c) (au ((d:LB)==[48]) (Q (.tuple ⟨[(.bool false),(strOf []),(strOf []),(.bool false)]⟩) c) (au ((n:LB)==[48]) (au neg (Q (.tuple ⟨[(.bool false),(strOf []),(strOf []),(.bool false)]⟩) c) (au (decide ((a:Int)>=0)) (Q (.tuple ⟨[(.bool false),(strOf []),(strOf []),(.bool false)]⟩) c) (au ((d:LB)==[49]) (au (decide ((a:Int)>=0)) (Q (.tuple ⟨[(.bool false),(strOf []),(strOf []),(.bool false)]⟩) c) (wpS SS aw.nm aw.ms [1,1,1,1,1,1,1] cc [Z,x1,X,x3,Y,W,(strOf n),(strOf d),(.bool neg),(.int .i64 a),K,L,m,H,x,P,U,G,O,M,o,l,k,w,z,V,J,B,s,I,D,p,S,i,j,(strOf n),(.bool e),(.bool (!e)),(.bool false),(strOf d),(.bool b),(.bool (!b)),(.bool (!b)),(.bool false),(strOf d),(.bool ((d:LB)==[48])),(.bool ((d:LB)==[48])),(.bool false),(strOf n),(.bool ((n:LB)==[48])),(.bool true),(.bool neg),(.bool false),(.int .i64 a),(.bool (decide ((a:Int)>=0))),(.bool (decide ((a:Int)>=0))),(.bool (decide ((a:Int)>=0))),(.bool (decide ((a:Int)>=0))),(.bool false),(strOf d),(.bool ((d:LB)==[49])),(.bool true),(.int .i64 a),(.bool (decide ((a:Int)>=0))),(.bool (decide ((a:Int)>=0))),(.bool (decide ((a:Int)>=0))),q,t,C,r,u,A,T,E,F,y,f,g,v,N,R] c (EE SS aw Q))) (wpS SS aw.nm aw.ms [1,1,1,1,1,1,1] cc [Z,x1,X,x3,Y,W,(strOf n),(strOf d),(.bool neg),(.int .i64 a),K,L,m,H,x,P,U,G,O,M,o,l,k,w,z,V,J,B,s,I,D,p,S,i,j,(strOf n),(.bool e),(.bool (!e)),(.bool false),(strOf d),(.bool b),(.bool (!b)),(.bool (!b)),(.bool false),(strOf d),(.bool ((d:LB)==[48])),(.bool ((d:LB)==[48])),(.bool false),(strOf n),(.bool ((n:LB)==[48])),(.bool true),(.bool neg),(.bool false),(.int .i64 a),(.bool (decide ((a:Int)>=0))),(.bool (decide ((a:Int)>=0))),(.bool (decide ((a:Int)>=0))),(.bool (decide ((a:Int)>=0))),(.bool false),(strOf d),(.bool ((d:LB)==[49])),(.bool false),undef,undef,(.bool false),(.bool false),q,t,C,r,u,A,T,E,F,y,f,g,v,N,R] c (EE SS aw Q))))) (au ((d:LB)==[49]) (au (decide ((a:Int)>=0)) (Q (.tuple ⟨[(.bool false),(strOf []),(strOf []),(.bool false)]⟩) c) (wpS SS aw.nm aw.ms [1,1,1,1,1,1,1] cc [Z,x1,X,x3,Y,W,(strOf n),(strOf d),(.bool neg),(.int .i64 a),K,L,m,H,x,P,U,G,O,M,o,l,k,w,z,V,J,B,s,I,D,p,S,i,j,(strOf n),(.bool e),(.bool (!e)),(.bool false),(strOf d),(.bool b),(.bool (!b)),(.bool (!b)),(.bool false),(strOf d),(.bool ((d:LB)==[48])),(.bool ((d:LB)==[48])),(.bool false),(strOf n),(.bool ((n:LB)==[48])),(.bool false),undef,undef,undef,undef,undef,(.bool false),(.bool false),(.bool false),(strOf d),(.bool ((d:LB)==[49])),(.bool true),(.int .i64 a),(.bool (decide ((a:Int)>=0))),(.bool (decide ((a:Int)>=0))),(.bool (decide ((a:Int)>=0))),q,t,C,r,u,A,T,E,F,y,f,g,v,N,R] c (EE SS aw Q))) (wpS SS aw.nm aw.ms [1,1,1,1,1,1,1] cc [Z,x1,X,x3,Y,W,(strOf n),(strOf d),(.bool neg),(.int .i64 a),K,L,m,H,x,P,U,G,O,M,o,l,k,w,z,V,J,B,s,I,D,p,S,i,j,(strOf n),(.bool e),(.bool (!e)),(.bool false),(strOf d),(.bool b),(.bool (!b)),(.bool (!b)),(.bool false),(strOf d),(.bool ((d:LB)==[48])),(.bool ((d:LB)==[48])),(.bool false),(strOf n),(.bool ((n:LB)==[48])),(.bool false),undef,undef,undef,undef,undef,(.bool false),(.bool false),(.bool false),(strOf d),(.bool ((d:LB)==[49])),(.bool false),undef,undef,(.bool false),(.bool false),q,t,C,r,u,A,T,E,F,y,f,g,v,N,R] c (EE SS aw Q))))))
theorem BF{neg:Bool}{x2 x3 x4 x5 y4 y6 x y0 N z2 z9 x9 z1 y8 y p m M P u2 y3 U H y2 Y D z7 f l d C u0 z6 B o k u R j i y7 u1 z4 V z3 X r g y5 a y9 Z x7 A y1 q K S G n E I W F J T z8 x6 x8 O b c L z0 z5:Value}(hx:tZ s t neg z (fM [1,1,1,1,1,1,1] aw.body) v w x2 x3 x4 x5 y4 y6 x y0 N z2 z9 x9 z1 y8 y p m M P u2 y3 U H y2 Y D z7 f l d C u0 z6 B o k u R j i y7 u1 z4 V z3 X r g y5 a y9 Z x7 A y1 q K S G n E I W F J T z8 x6 x8 O b c L z0 z5 h Q):TT SS aw [1,1,1,1,1,1] [v,w,x2,x3,x4,x5,(strOf s),(strOf t),(.bool neg),(.int .i64 z),y4,y6,x,y0,N,z2,z9,x9,z1,y8,y,p,m,M,P,u2,y3,U,H,y2,Y,D,z7,f,l,d,C,u0,z6,B,o,k,u,R,j,i,y7,u1,z4,V,z3,X,r,g,y5,a,y9,Z,x7,A,y1,q,K,S,G,n,E,I,W,F,J,T,z8,x6,x8,O,b,c,L,z0,z5] h (EE SS aw Q):=by
 have e:∀cc,tZ s t neg z cc v w x2 x3 x4 x5 y4 y6 x y0 N z2 z9 x9 z1 y8 y p m M P u2 y3 U H y2 Y D z7 f l d C u0 z6 B o k u R j i y7 u1 z4 V z3 X r g y5 a y9 Z x7 A y1 q K S G n E I W F J T z8 x6 x8 O b c L z0 z5 h Q=wpS SS aw.nm aw.ms [1,1,1,1,1,1] (setAt [1] cc (fM [1,1,1,1,1,1] aw.body)) [v,w,x2,x3,x4,x5,(strOf s),(strOf t),(.bool neg),(.int .i64 z),y4,y6,x,y0,N,z2,z9,x9,z1,y8,y,p,m,M,P,u2,y3,U,H,y2,Y,D,z7,f,l,d,C,u0,z6,B,o,k,u,R,j,i,y7,u1,z4,V,z3,X,r,g,y5,a,y9,Z,x7,A,y1,q,K,S,G,n,E,I,W,F,J,T,z8,x6,x8,O,b,c,L,z0,z5] h (EE SS aw Q):=λcc=>by kernel_rfl
 have e:=e (fM [1,1,1,1,1,1,1] aw.body);have ec:(fM [1,1,1,1,1,1,1] aw.body)=fM [1] (fM [1,1,1,1,1,1] aw.body):=by kernel_rfl
 have es:setAt [1] (fM [1,1,1,1,1,1,1] aw.body) (fM [1,1,1,1,1,1] aw.body)=fM [1,1,1,1,1,1] aw.body:=by rw[ec,iW]
 rw[es]at e;exact ai hx e
theorem BG{neg:Bool}{x2 x3 x4 x5 y7 y9 B y3 R z5 u2 y2 z4 z1 C u p P T u5 y6 X K y5 x7 G u0 j o i F u3 z9 E r n A U m l z0 u4 z7 Y z6 x6 y k y8 d z2 x8 y0 D y4 x N V J q H L Z I M W u1 x9 y1 S f g O z3 z8:Value}(hx:FW SS 118 [(strOf s),(strOf t)] h λc e=>∃b:LB,∃a:Int,c=(.tuple ⟨[(strOf b),(.int .i64 a)]⟩)/\au (!((b:LB)==[49])) (au (!((t:LB)==[49])) (Q (.tuple ⟨[(.bool false),(strOf []),(strOf []),(.bool false)]⟩) e) (Q (.tuple ⟨[(.bool neg),(strOf s),(strOf t),(.bool true)]⟩) e)) (Q (.tuple ⟨[(.bool neg),(strOf s),(strOf t),(.bool true)]⟩) e)):TT SS aw [1,1,1,1,1,1,1] [v,w,x2,x3,x4,x5,(strOf s),(strOf t),(.bool neg),(.int .i64 z),y7,y9,B,y3,R,z5,u2,y2,z4,z1,C,u,p,P,T,u5,y6,X,K,y5,x7,G,u0,j,o,i,F,u3,z9,E,r,n,A,U,m,l,z0,u4,z7,Y,z6,x6,y,k,y8,d,z2,x8,y0,D,y4,x,N,V,J,q,H,L,Z,I,M,W,u1,x9,y1,S,f,g,O,z3,z8] h (EE SS aw Q):=ai hx
noncomputable def Kv:FD:=cI Tryz.f71 []
theorem H5(l:LB)(h:ae)(Q:VH)(g:FW SS 94 [(strOf l)] h λe f=>∃d:Bool,∃c:LB,∃b:LB,∃a:Bool,e=(.tuple ⟨[(.bool d),(strOf c),(strOf b),(.bool a)]⟩)/\Q (.bool a) f):FW SS 71 [(strOf l)] h Q:=cN Kv Tryz.func71 (ai g)
noncomputable def Ku:FD:=cI Tryz.f96 []
theorem H4(l m:LB)(h:ae)(Q:VH)(e:FW SS 122 [(strOf l),(strOf m)] h λc d=>∃b:LB,∃a:Int,c=(.tuple ⟨[(strOf b),(.int .i64 a)]⟩)/\Q (strOf b) d):FW SS 96 [(strOf l),(strOf m)] h Q:=cN Ku Tryz.func96 (ai e)
noncomputable def Q5:FD:=cI Tryz.f95 []
theorem MX(p:Bool)(l:LB)(q:Bool)(m:LB)(h:ae)(Q:VH)(i:au (p==q) (FW SS 119 [(strOf l),(strOf m)] h λc d=>∃b:LB,∃a:Int,c=(.tuple ⟨[(strOf b),(.int .i64 a)]⟩)/\Q (.tuple ⟨[(.bool p),(strOf b)]⟩) d) (FW SS 120 [(strOf l),(strOf m)] h λf g=>yI .i64 f λe=>au (decide ((e:Int)>=0)) (FW SS 121 [(strOf l),(strOf m)] g λc d=>∃b:LB,∃a:Int,c=(.tuple ⟨[(strOf b),(.int .i64 a)]⟩)/\Q (.tuple ⟨[(.bool p),(strOf b)]⟩) d) (FW SS 121 [(strOf m),(strOf l)] g λc d=>∃b:LB,∃a:Int,c=(.tuple ⟨[(strOf b),(.int .i64 a)]⟩)/\Q (.tuple ⟨[(.bool q),(strOf b)]⟩) d))):FW SS 95 [(.bool p),(strOf l),(.bool q),(strOf m)] h Q:=cN Q5 Tryz.func95 (ai i)
noncomputable def Q4:FD:=cI Tryz.f72 []
theorem MW(l m:LB)(h:ae)(Q:VH)(w:FW SS 94 [(strOf l)] h λu v=>∃t:Bool,∃s:LB,∃r:LB,∃q:Bool,u=(.tuple ⟨[(.bool t),(strOf s),(strOf r),(.bool q)]⟩)/\FW SS 94 [(strOf m)] v λo p=>∃n:Bool,∃m:LB,∃l:LB,∃k:Bool,o=(.tuple ⟨[(.bool n),(strOf m),(strOf l),(.bool k)]⟩)/\au (!q) (Q (.int .i64 0) p) (au (!k) (Q (.int .i64 0) p) (FW SS 96 [(strOf s),(strOf l)] p λi j=>yS i λh=>FW SS 96 [(strOf m),(strOf r)] j λf g=>yS f λe=>FW SS 95 [(.bool t),(strOf h),(.bool (!n)),(strOf e)] g λc d=>∃b:Bool,∃a:LB,c=(.tuple ⟨[(.bool b),(strOf a)]⟩)/\au ((a:LB)==[48]) (Q (.int .i64 0) d) (au b (Q (.int .i64 (-1)) d) (Q (.int .i64 1) d))))):FW SS 72 [(strOf l),(strOf m)] h Q:=cN Q4 Tryz.func72 (ai w)
noncomputable def QW:FD:=cI Tryz.f142 []
theorem MP(l:LB)(e:Int)(h:ae)(Q:VH)(a:au (((e:Int) !=0)) (xA (ba SS.P 176 []) λ_=>False) (Q (strOf l) h)):FW SS 142 [(strOf l),(.int .i64 e)] h Q:=cN QW Tryz.func142 (ai a)
noncomputable def al:FD:=cI Tryz.f145 []
abbrev DH(l:LB)(cc:Code)(h:ae)(Q:VH):Prop:=xN (br SS.P 155) h λm j=>FW SS 177 [(strOf l),(strOf [45])] j λg k=>∃c:LB,∃d:Bool,g=(.tuple ⟨[(strOf c),(.bool d)]⟩)/\FW SS 178 [(strOf c),(strOf [47])] k λi f=>∃e:LB,∃b:LB,∃a:Bool,i=(.tuple ⟨[(strOf e),(strOf b),(.bool a)]⟩)/\au (!a) (wpS SS al.nm al.ms [1,1,1,1] cc (uN [(strOf l),undef,(pA (h.next)),(.bool false),(strOf c),(.bool d),(strOf e),(strOf [49]),(.bool a),undef,undef,(.tuple ⟨[(strOf c),(.bool d)]⟩),(strOf l),(.tuple ⟨[(strOf c),(.bool d)]⟩),(strOf c),(.bool d),(.tuple ⟨[(strOf e),(strOf b),(.bool a)]⟩),(strOf c),(.tuple ⟨[(strOf e),(strOf b),(.bool a)]⟩),(strOf e),(strOf b),(.bool a),(.bool a),(.bool (!a))] 53) f (EE SS al Q)) (wpS SS al.nm al.ms [1,1,1,1] cc (uN [(strOf l),undef,(pA (h.next)),(.bool false),(strOf c),(.bool d),(strOf e),(strOf b),(.bool a),undef,undef,(.tuple ⟨[(strOf c),(.bool d)]⟩),(strOf l),(.tuple ⟨[(strOf c),(.bool d)]⟩),(strOf c),(.bool d),(.tuple ⟨[(strOf e),(strOf b),(.bool a)]⟩),(strOf c),(.tuple ⟨[(strOf e),(strOf b),(.bool a)]⟩),(strOf e),(strOf b),(.bool a),(.bool a),(.bool (!a))] 53) f (EE SS al Q))
theorem Kn(l:LB)(h:ae)(Q:VH)(a:DH l (fM [1,1,1,1] al.body) h Q):FW SS 145 [(strOf l)] h Q:=by
 have e:∀cc,DH l cc h Q=wpS SS al.nm al.ms [] (setAt [1,1,1,1] cc al.body) ([(strOf l)]++List.replicate (al.nm-([(strOf l)]:LV).length) undef) h (EE SS al Q):=λcc=>by kernel_rfl
 have e:=e (fM [1,1,1,1] al.body);rw[iW]at e;exact cN al Tryz.func145 (ai a e)
abbrev vQ(n d:LB)(neg r:Bool)(p:Addr)(cc:Code)(x0 x1 x3 x4 x9 Z x5 v X G y1 y6 W y0 x7 w q m F z9 u9 u4 u1 z8 u3 u2 z7 u7 z0 z2 y9 z6 u8 u6 z5 z3 z1 u I l j x6 y7 y3 N y2 P t i x2 f x8 S U x Y s E J A o y C O z D K y4 T V H g:Value)(h:ae)(Q:VH):Prop:=FW SS 171 [(strOf n)] h λv1 e=>yB v1 λc=>au (!c) (xA (ba SS.P 155 []) λc4=>xU (ah SS.P 155 (.pointer (some p)) (.agg ⟨c4⟩) e) e λu5 g6=>eh SS [((.pointer (some p)),some 155),((.bool false),none)] g6 Q) (FW SS 171 [(strOf d)] e λv7 a=>yB v7 λb=>au (!b) (xA (ba SS.P 155 []) λy5=>xU (ah SS.P 155 (.pointer (some p)) (.agg ⟨y5⟩) a) a λz4 k=>eh SS [((.pointer (some p)),some 155),((.bool false),none)] k Q) (au (decide ((((n:LB).length:Int):Int)>400)) (xA (ba SS.P 155 []) λM=>xU (ah SS.P 155 (.pointer (some p)) (.agg ⟨M⟩) a) a λy8 L=>eh SS [((.pointer (some p)),some 155),((.bool false),none)] L Q) (au (decide ((((d:LB).length:Int):Int)>400)) (xA (ba SS.P 155 []) λR=>xU (ah SS.P 155 (.pointer (some p)) (.agg ⟨R⟩) a) a λu0 B=>eh SS [((.pointer (some p)),some 155),((.bool false),none)] B Q) (wpS SS al.nm al.ms [1,1,1,1,1] cc [x0,x1,(.pointer (some p)),x3,x4,(.bool neg),(strOf n),(strOf d),(.bool r),x9,Z,x5,v,X,G,y1,y6,W,y0,x7,w,q,m,F,(strOf n),(.bool c),(.bool (!c)),(.bool false),(strOf d),(.bool b),(.bool (!b)),(.bool (!b)),(.bool false),(strOf n),(.int .i64 ((n:LB).length:Int)),(.bool (decide ((((n:LB).length:Int):Int)>400))),(.bool (decide ((((n:LB).length:Int):Int)>400))),(.bool false),(strOf d),(.int .i64 ((d:LB).length:Int)),(.bool (decide ((((d:LB).length:Int):Int)>400))),(.bool (decide ((((d:LB).length:Int):Int)>400))),u,I,l,j,x6,y7,y3,N,y2,P,t,i,x2,f,x8,S,U,x,Y,s,E,J,A,o,y,C,O,z,D,K,y4,T,V,H,g] a (EE SS al Q)))))
theorem DJ{neg:Bool}{p:Addr}{x3 x4 x9 y2 y4 y x7 M y9 z5 x6 y8 y6 z q m L O z8 y1 T H y0 X D z3 f l d C z6 z2 B o k x P j i y5 z7 z1 U z0 W u g y3 a y7 Y x2 A x8 r K R G n E I V F J S z4 Z x5 N c:Value}(hx:vQ s t neg b p (fM [1,1,1,1,1] al.body) v w x3 x4 x9 y2 y4 y x7 M y9 z5 x6 y8 y6 z q m L O z8 y1 T H y0 X D z3 f l d C z6 z2 B o k x P j i y5 z7 z1 U z0 W u g y3 a y7 Y x2 A x8 r K R G n E I V F J S z4 Z x5 N c h Q):TT SS al [1,1,1,1] [v,w,(.pointer (some p)),x3,x4,(.bool neg),(strOf s),(strOf t),(.bool b),x9,y2,y4,y,x7,M,y9,z5,x6,y8,y6,z,q,m,L,O,z8,y1,T,H,y0,X,D,z3,f,l,d,C,z6,z2,B,o,k,x,P,j,i,y5,z7,z1,U,z0,W,u,g,y3,a,y7,Y,x2,A,x8,r,K,R,G,n,E,I,V,F,J,S,z4,Z,x5,N,c] h (EE SS al Q):=by
 have e:∀cc,vQ s t neg b p cc v w x3 x4 x9 y2 y4 y x7 M y9 z5 x6 y8 y6 z q m L O z8 y1 T H y0 X D z3 f l d C z6 z2 B o k x P j i y5 z7 z1 U z0 W u g y3 a y7 Y x2 A x8 r K R G n E I V F J S z4 Z x5 N c h Q=wpS SS al.nm al.ms [1,1,1,1] (setAt [1] cc (fM [1,1,1,1] al.body)) [v,w,(.pointer (some p)),x3,x4,(.bool neg),(strOf s),(strOf t),(.bool b),x9,y2,y4,y,x7,M,y9,z5,x6,y8,y6,z,q,m,L,O,z8,y1,T,H,y0,X,D,z3,f,l,d,C,z6,z2,B,o,k,x,P,j,i,y5,z7,z1,U,z0,W,u,g,y3,a,y7,Y,x2,A,x8,r,K,R,G,n,E,I,V,F,J,S,z4,Z,x5,N,c] h (EE SS al Q):=λcc=>by kernel_rfl
 have e:=e (fM [1,1,1,1,1] al.body);have ec:(fM [1,1,1,1,1] al.body)=fM [1] (fM [1,1,1,1] al.body):=by kernel_rfl
 have es:setAt [1] (fM [1,1,1,1,1] al.body) (fM [1,1,1,1] al.body)=fM [1,1,1,1] al.body:=by rw[ec,iW]
 rw[es]at e;exact ai hx e
abbrev vR(n d:LB)(neg a:Bool)(p:Addr)(cc:Code)(x0 x1 x3 x4 x9 U V q P E Y x6 O X W r l i D G x8 T J z S L v x2 e g c u x7 Z t k f o z1 y8 y7 z7 u1 u0 z2 z9 z3 z0 y6 z6 y5 z8 z4 z5 s R m C H y j w A K x B I x5 M N F b:Value)(h:ae)(Q:VH):Prop:=au neg (au ((n:LB)==[48]) (xA (ba SS.P 155 []) λc1=>xU (ah SS.P 155 (.pointer (some p)) (.agg ⟨c1⟩) h) h λu2 g3=>eh SS [((.pointer (some p)),some 155),((.bool false),none)] g3 Q) (au a (au ((d:LB)==[48]) (xA (ba SS.P 155 []) λc4=>xU (ah SS.P 155 (.pointer (some p)) (.agg ⟨c4⟩) h) h λu5 g6=>eh SS [((.pointer (some p)),some 155),((.bool false),none)] g6 Q) (au ((d:LB)==[49]) (xA (ba SS.P 155 []) λc7=>xU (ah SS.P 155 (.pointer (some p)) (.agg ⟨c7⟩) h) h λu8 g9=>eh SS [((.pointer (some p)),some 155),((.bool false),none)] g9 Q) (wpS SS al.nm al.ms [1,1,1,1,1,1] cc [x0,x1,(.pointer (some p)),x3,x4,(.bool neg),(strOf n),(strOf d),(.bool a),x9,U,V,q,P,E,Y,x6,O,X,W,r,l,i,D,G,x8,T,J,z,S,L,v,x2,e,g,c,u,x7,Z,t,k,f,o,(.bool neg),(.bool true),(strOf n),(.bool ((n:LB)==[48])),(.bool ((n:LB)==[48])),(.bool false),(.bool a),(.bool true),(strOf d),(.bool ((d:LB)==[48])),(.bool false),(strOf d),(.bool ((d:LB)==[49])),(.bool ((d:LB)==[49])),(.bool ((d:LB)==[49])),(.bool ((d:LB)==[49])),s,R,m,C,H,y,j,w,A,K,x,B,I,x5,M,N,F,b] h (EE SS al Q)))) (wpS SS al.nm al.ms [1,1,1,1,1,1] cc [x0,x1,(.pointer (some p)),x3,x4,(.bool neg),(strOf n),(strOf d),(.bool a),x9,U,V,q,P,E,Y,x6,O,X,W,r,l,i,D,G,x8,T,J,z,S,L,v,x2,e,g,c,u,x7,Z,t,k,f,o,(.bool neg),(.bool true),(strOf n),(.bool ((n:LB)==[48])),(.bool ((n:LB)==[48])),(.bool false),(.bool a),(.bool false),undef,undef,undef,undef,undef,undef,(.bool false),(.bool false),s,R,m,C,H,y,j,w,A,K,x,B,I,x5,M,N,F,b] h (EE SS al Q)))) (au a (au ((d:LB)==[48]) (xA (ba SS.P 155 []) λy3=>xU (ah SS.P 155 (.pointer (some p)) (.agg ⟨y3⟩) h) h λy9 y0=>eh SS [((.pointer (some p)),some 155),((.bool false),none)] y0 Q) (au ((d:LB)==[49]) (xA (ba SS.P 155 []) λy2=>xU (ah SS.P 155 (.pointer (some p)) (.agg ⟨y2⟩) h) h λy4 y1=>eh SS [((.pointer (some p)),some 155),((.bool false),none)] y1 Q) (wpS SS al.nm al.ms [1,1,1,1,1,1] cc [x0,x1,(.pointer (some p)),x3,x4,(.bool neg),(strOf n),(strOf d),(.bool a),x9,U,V,q,P,E,Y,x6,O,X,W,r,l,i,D,G,x8,T,J,z,S,L,v,x2,e,g,c,u,x7,Z,t,k,f,o,(.bool neg),(.bool false),undef,undef,(.bool false),(.bool false),(.bool a),(.bool true),(strOf d),(.bool ((d:LB)==[48])),(.bool false),(strOf d),(.bool ((d:LB)==[49])),(.bool ((d:LB)==[49])),(.bool ((d:LB)==[49])),(.bool ((d:LB)==[49])),s,R,m,C,H,y,j,w,A,K,x,B,I,x5,M,N,F,b] h (EE SS al Q)))) (wpS SS al.nm al.ms [1,1,1,1,1,1] cc [x0,x1,(.pointer (some p)),x3,x4,(.bool neg),(strOf n),(strOf d),(.bool a),x9,U,V,q,P,E,Y,x6,O,X,W,r,l,i,D,G,x8,T,J,z,S,L,v,x2,e,g,c,u,x7,Z,t,k,f,o,(.bool neg),(.bool false),undef,undef,(.bool false),(.bool false),(.bool a),(.bool false),undef,undef,undef,undef,undef,undef,(.bool false),(.bool false),s,R,m,C,H,y,j,w,A,K,x,B,I,x5,M,N,F,b] h (EE SS al Q)))
theorem DK{neg:Bool}{p:Addr}{x3 x4 x9 y2 y4 y x7 M y9 z5 x6 y8 y6 z q m L O z8 y1 T H y0 X D z3 f l d C z6 z2 B o k x P j i y5 z7 z1 U z0 W u g y3 a y7 Y x2 A x8 r K R G n E I V F J S z4 Z x5 N c:Value}(hx:vR s t neg b p (fM [1,1,1,1,1,1] al.body) v w x3 x4 x9 y2 y4 y x7 M y9 z5 x6 y8 y6 z q m L O z8 y1 T H y0 X D z3 f l d C z6 z2 B o k x P j i y5 z7 z1 U z0 W u g y3 a y7 Y x2 A x8 r K R G n E I V F J S z4 Z x5 N c h Q):TT SS al [1,1,1,1,1] [v,w,(.pointer (some p)),x3,x4,(.bool neg),(strOf s),(strOf t),(.bool b),x9,y2,y4,y,x7,M,y9,z5,x6,y8,y6,z,q,m,L,O,z8,y1,T,H,y0,X,D,z3,f,l,d,C,z6,z2,B,o,k,x,P,j,i,y5,z7,z1,U,z0,W,u,g,y3,a,y7,Y,x2,A,x8,r,K,R,G,n,E,I,V,F,J,S,z4,Z,x5,N,c] h (EE SS al Q):=by
 have e:∀cc,vR s t neg b p cc v w x3 x4 x9 y2 y4 y x7 M y9 z5 x6 y8 y6 z q m L O z8 y1 T H y0 X D z3 f l d C z6 z2 B o k x P j i y5 z7 z1 U z0 W u g y3 a y7 Y x2 A x8 r K R G n E I V F J S z4 Z x5 N c h Q=wpS SS al.nm al.ms [1,1,1,1,1] (setAt [1] cc (fM [1,1,1,1,1] al.body)) [v,w,(.pointer (some p)),x3,x4,(.bool neg),(strOf s),(strOf t),(.bool b),x9,y2,y4,y,x7,M,y9,z5,x6,y8,y6,z,q,m,L,O,z8,y1,T,H,y0,X,D,z3,f,l,d,C,z6,z2,B,o,k,x,P,j,i,y5,z7,z1,U,z0,W,u,g,y3,a,y7,Y,x2,A,x8,r,K,R,G,n,E,I,V,F,J,S,z4,Z,x5,N,c] h (EE SS al Q):=λcc=>by kernel_rfl
 have e:=e (fM [1,1,1,1,1,1] al.body);have ec:(fM [1,1,1,1,1,1] al.body)=fM [1] (fM [1,1,1,1,1] al.body):=by kernel_rfl
 have es:setAt [1] (fM [1,1,1,1,1,1] al.body) (fM [1,1,1,1,1] al.body)=fM [1,1,1,1,1] al.body:=by rw[ec,iW]
 rw[es]at e;exact ai hx e
abbrev vT(n d:LB)(neg t:Bool)(p:Addr)(cc:Code)(x0 x1 x3 x4 x9 z9 W w S E x6 y3 R x5 Z x s q D G y6 U I C T L B y1 i o g A y4 y0 z r m v H l k Y y5 x8 J x7 K u j V e x2 M O y z8 y8 z4 z5 z1 y7 y9 z2 z7 z0 z3 z6 y2 N P F f:Value)(h:ae)(Q:VH):Prop:=FW SS 175 [(strOf n),(strOf d)] h λv1 c=>∃a:LB,∃b:Int,v1=(.tuple ⟨[(strOf a),(.int .i64 b)]⟩)/\au (((b:Int) !=0)) (xA (ba SS.P 155 []) λc5=>xU (ah SS.P 155 (.pointer (some p)) (.agg ⟨c5⟩) c) c λu6 g7=>eh SS [((.pointer (some p)),some 155),((.bool false),none)] g7 Q) (au (!((a:LB)==[49])) (xA (ba SS.P 155 []) λc8=>xU (ah SS.P 155 (.pointer (some p)) (.agg ⟨c8⟩) c) c λu9 X=>eh SS [((.pointer (some p)),some 155),((.bool false),none)] X Q) (wpS SS al.nm al.ms [1,1,1,1,1,1,1] cc [x0,x1,(.pointer (some p)),x3,x4,(.bool neg),(strOf n),(strOf d),(.bool t),(strOf a),(.int .i64 b),W,w,S,E,x6,y3,R,x5,Z,x,s,q,D,G,y6,U,I,C,T,L,B,y1,i,o,g,A,y4,y0,z,r,m,v,H,l,k,Y,y5,x8,J,x7,K,u,j,V,e,x2,M,O,y,(.tuple ⟨[(strOf a),(.int .i64 b)]⟩),(strOf n),(strOf d),(.tuple ⟨[(strOf a),(.int .i64 b)]⟩),(strOf a),(.int .i64 b),(.int .i64 b),(.bool (((b:Int) !=0))),(.bool false),(strOf a),(.bool (!((a:LB)==[49]))),(.bool (!((a:LB)==[49]))),y2,N,P,F,f] c (EE SS al Q)))
theorem DL{neg:Bool}{p:Addr}{x3 x4 x9 y2 y4 y x7 M y9 z5 x6 y8 y6 z q m L O z8 y1 T H y0 X D z3 f l d C z6 z2 B o k x P j i y5 z7 z1 U z0 W u g y3 a y7 Y x2 A x8 r K R G n E I V F J S z4 Z x5 N c:Value}(hx:vT s t neg b p (fM [1,1,1,1,1,1,1] al.body) v w x3 x4 x9 y2 y4 y x7 M y9 z5 x6 y8 y6 z q m L O z8 y1 T H y0 X D z3 f l d C z6 z2 B o k x P j i y5 z7 z1 U z0 W u g y3 a y7 Y x2 A x8 r K R G n E I V F J S z4 Z x5 N c h Q):TT SS al [1,1,1,1,1,1] [v,w,(.pointer (some p)),x3,x4,(.bool neg),(strOf s),(strOf t),(.bool b),x9,y2,y4,y,x7,M,y9,z5,x6,y8,y6,z,q,m,L,O,z8,y1,T,H,y0,X,D,z3,f,l,d,C,z6,z2,B,o,k,x,P,j,i,y5,z7,z1,U,z0,W,u,g,y3,a,y7,Y,x2,A,x8,r,K,R,G,n,E,I,V,F,J,S,z4,Z,x5,N,c] h (EE SS al Q):=by
 have e:∀cc,vT s t neg b p cc v w x3 x4 x9 y2 y4 y x7 M y9 z5 x6 y8 y6 z q m L O z8 y1 T H y0 X D z3 f l d C z6 z2 B o k x P j i y5 z7 z1 U z0 W u g y3 a y7 Y x2 A x8 r K R G n E I V F J S z4 Z x5 N c h Q=wpS SS al.nm al.ms [1,1,1,1,1,1] (setAt [1] cc (fM [1,1,1,1,1,1] al.body)) [v,w,(.pointer (some p)),x3,x4,(.bool neg),(strOf s),(strOf t),(.bool b),x9,y2,y4,y,x7,M,y9,z5,x6,y8,y6,z,q,m,L,O,z8,y1,T,H,y0,X,D,z3,f,l,d,C,z6,z2,B,o,k,x,P,j,i,y5,z7,z1,U,z0,W,u,g,y3,a,y7,Y,x2,A,x8,r,K,R,G,n,E,I,V,F,J,S,z4,Z,x5,N,c] h (EE SS al Q):=λcc=>by kernel_rfl
 have e:=e (fM [1,1,1,1,1,1,1] al.body);have ec:(fM [1,1,1,1,1,1,1] al.body)=fM [1] (fM [1,1,1,1,1,1] al.body):=by kernel_rfl
 have es:setAt [1] (fM [1,1,1,1,1,1,1] al.body) (fM [1,1,1,1,1,1] al.body)=fM [1,1,1,1,1,1] al.body:=by rw[ec,iW]
 rw[es]at e;exact ai hx e
theorem DM{neg r:Bool}{p:Addr}{x3 x4 x9 y3 y5 z x8 N z0 z6 x7 y9 y7 A q m M P z9 y2 U I y1 Y E z4 f l e D z7 z3 C o k y R j i y6 z8 z2 V z1 X x g y4 c y8 Z x5 B y0 u L S H n F J W G K T z5 x2 x6 O d:Value}(hx:xA (ba SS.P 155 [(0,(.bool neg)),(1,(strOf s)),(2,(strOf t))]) λb=>xU (ah SS.P 155 (.pointer (some p)) (.agg ⟨b⟩) h) h λ_ a=>eh SS [((.pointer (some p)),some 155),((.bool true),none)] a Q):TT SS al [1,1,1,1,1,1,1] [v,w,(.pointer (some p)),x3,x4,(.bool neg),(strOf s),(strOf t),(.bool r),x9,y3,y5,z,x8,N,z0,z6,x7,y9,y7,A,q,m,M,P,z9,y2,U,I,y1,Y,E,z4,f,l,e,D,z7,z3,C,o,k,y,R,j,i,y6,z8,z2,V,z1,X,x,g,y4,c,y8,Z,x5,B,y0,u,L,S,H,n,F,J,W,G,K,T,z5,x2,x6,O,d] h (EE SS al Q):=ai hx
noncomputable def MS:FD:=cI Tryz.f109 []
theorem Ko(l:LB)(h:ae)(Q:VH)(e:FW SS 145 [(strOf l)] h λc d=>∃b:LV,∃a:Bool,c=(.tuple ⟨[(.agg ⟨b⟩),(.bool a)]⟩)/\Q (.bool a) d):FW SS 109 [(strOf l)] h Q:=cN MS Tryz.func109 (ai e)
noncomputable def QX:FD:=cI Tryz.f141 []
theorem MQ(p:Bool)(l:LB)(q:Bool)(m:LB)(h:ae)(Q:VH)(k:au (p==q) (FW SS 168 [(strOf l),(strOf m)] h λf g=>∃e:LB,∃d:Int,f=(.tuple ⟨[(strOf e),(.int .i64 d)]⟩)/\FW SS 142 [(strOf e),(.int .i64 d)] g λb c=>yS b λa=>Q (.tuple ⟨[(.bool p),(strOf a)]⟩) c) (FW SS 169 [(strOf l),(strOf m)] h λi j=>yI .i64 i λh=>au (decide ((h:Int)<0)) (FW SS 170 [(strOf m),(strOf l)] j λf g=>∃e:LB,∃d:Int,f=(.tuple ⟨[(strOf e),(.int .i64 d)]⟩)/\FW SS 142 [(strOf e),(.int .i64 d)] g λb c=>yS b λa=>Q (.tuple ⟨[(.bool q),(strOf a)]⟩) c) (FW SS 170 [(strOf l),(strOf m)] j λf g=>∃e:LB,∃d:Int,f=(.tuple ⟨[(strOf e),(.int .i64 d)]⟩)/\FW SS 142 [(strOf e),(.int .i64 d)] g λb c=>yS b λa=>Q (.tuple ⟨[(.bool p),(strOf a)]⟩) c))):FW SS 141 [(.bool p),(strOf l),(.bool q),(strOf m)] h Q:=cN QX Tryz.func141 (ai k)
noncomputable def UZ:FD:=cI Tryz.f149 []
theorem QR(l m:LB)(h:ae)(Q:VH)(N:FW SS 145 [(strOf l)] h λP D=>∃F:LV,∃H:Bool,P=(.tuple ⟨[(.agg ⟨F⟩),(.bool H)]⟩)/\xN (br SS.P 155) D λ_ I=>xU (ah SS.P 155 (pA (D.next)) (.agg ⟨F⟩) I) I λ_ M=>FW SS 145 [(strOf m)] M λO C=>∃J:LV,∃G:Bool,O=(.tuple ⟨[(.agg ⟨J⟩),(.bool G)]⟩)/\xN (br SS.P 155) C λ_ K=>xU (ah SS.P 155 (pA (C.next)) (.agg ⟨J⟩) K) K λ_ B=>au (!H) (Q (.int .i64 0) B) (au (!G) (Q (.int .i64 0) B) (fP 155 (pA (D.next)) 0 λE=>lB (room B 27) E λA=>fP 155 (pA (D.next)) 1 λR=>lS (room B 27) R λL=>fP 155 (pA (C.next)) 2 λz=>lS (room B 27) z λy=>FW SS 143 [(strOf L),(strOf y)] (room B 27) λw x=>∃v:LB,∃u:Int,w=(.tuple ⟨[(strOf v),(.int .i64 u)]⟩)/\FW SS 142 [(strOf v),(.int .i64 u)] x λs t=>yS s λr=>fP 155 (pA (C.next)) 0 λq=>lB t q λp=>fP 155 (pA (C.next)) 1 λo=>lS t o λn=>fP 155 (pA (D.next)) 2 λm=>lS t m λl=>FW SS 143 [(strOf n),(strOf l)] t λj k=>∃i:LB,∃h:Int,j=(.tuple ⟨[(strOf i),(.int .i64 h)]⟩)/\FW SS 142 [(strOf i),(.int .i64 h)] k λf g=>yS f λe=>FW SS 141 [(.bool A),(strOf r),(.bool (!p)),(strOf e)] g λc d=>∃b:Bool,∃a:LB,c=(.tuple ⟨[(.bool b),(strOf a)]⟩)/\(aj SS.P 4 x (.pointer (some E))=some (.bool A)/\dI 4 (.bool A) (.bool A)=true)/\(aj SS.P 4 t (.pointer (some E))=some (.bool A)/\dI 4 (.bool A) (.bool A)=true)/\(aj SS.P 4 k (.pointer (some E))=some (.bool A)/\dI 4 (.bool A) (.bool A)=true)/\(aj SS.P 4 g (.pointer (some E))=some (.bool A)/\dI 4 (.bool A) (.bool A)=true)/\(aj SS.P 4 (room B 27) (.pointer (some q))=some (.bool p)/\dI 4 (.bool p) (.bool p)=true)/\(aj SS.P 4 x (.pointer (some q))=some (.bool p)/\dI 4 (.bool p) (.bool p)=true)/\(aj SS.P 4 k (.pointer (some q))=some (.bool p)/\dI 4 (.bool p) (.bool p)=true)/\(aj SS.P 4 g (.pointer (some q))=some (.bool p)/\dI 4 (.bool p) (.bool p)=true)/\(aj SS.P 9 (room B 27) (.pointer (some o))=some (strOf n)/\dI 4 (strOf n) (strOf n)=true)/\(aj SS.P 9 x (.pointer (some o))=some (strOf n)/\dI 4 (strOf n) (strOf n)=true)/\(aj SS.P 9 (room B 27) (.pointer (some m))=some (strOf l)/\dI 4 (strOf l) (strOf l)=true)/\(aj SS.P 9 x (.pointer (some m))=some (strOf l)/\dI 4 (strOf l) (strOf l)=true)/\au ((a:LB)==[48]) (Q (.int .i64 0) d) (au b (Q (.int .i64 (-1)) d) (Q (.int .i64 1) d))))):FW SS 149 [(strOf l),(strOf m)] h Q:=cN UZ Tryz.func149 (ai N)
noncomputable def TI:FD:=cI Tryz.f204 []
theorem PH(l m:LB)(h:ae)(Q:VH)(b:au (decide ((((l:LB).length:Int):Int)>=((m:LB).length:Int))) (xS (bG SS.P 9 (strOf l) none (some (.int .i64 ((m:LB).length:Int))) none h) λa=>Q (.bool ((a:LB)==m)) h) (Q (.bool false) h)):FW SS 204 [(strOf l),(strOf m)] h Q:=cN TI Tryz.func204 (ai b)
noncomputable def gI:FD:=cI Tryz.f171 [([1,1,0,1,0,0],[0,22,23])]
abbrev mJ(l:LB)(i:Int):LV:=[(strOf l),(.int .i64 (l.length:Int)),(.int .i64 i)]
theorem A6(l:LB)(h:ae)(Q:VH)(b:au ((l:LB)==[]) (Q (.bool false) h) (au (decide ((((l:LB).length:Int):Int)>1000)) (Q (.bool false) h) (au (decide ((((l:LB).length:Int):Int)>1)) (xI .u8 (bR SS.P 9 (strOf l) (.int .i64 0)) λa=>au (((a:Int)==48)) (Q (.bool false) h) (LL SS gI [1,1,0,1,0,0] [(strOf l),(.int .i64 ((l:LB).length:Int)),(.int .i64 0)] h (KK SS gI [1,1,0,1,0] [] (EE SS gI Q)))) (LL SS gI [1,1,0,1,0,0] [(strOf l),(.int .i64 ((l:LB).length:Int)),(.int .i64 0)] h (KK SS gI [1,1,0,1,0] [] (EE SS gI Q)))))):FW SS 171 [(strOf l)] h Q:=cN gI Tryz.func171 (ai b)
theorem vt(l:LB)  (d:Nat->Int->ae->Prop) (Q:VH) (step:∀(c:Nat)(i:Int)(f:Nat->Value)(h:ae),d c i h->au (decide ((i:Int)<(l.length:Int))) (xI .u8 (bR SS.P 9 (strOf l) (.int .i64 i)) λb=>au (decide ((b:Int)<48)) (Q (.bool false) h) (xI .u8 (bR SS.P 9 (strOf l) (.int .i64 i)) λa=>au (decide ((a:Int)>57)) (Q (.bool false) h) (aJ (fm (mJ l) d) c [(strOf l),(.int .i64 (l.length:Int)),(.int .i64 (wrap .i64 (i+1)))] h))) (Q (.bool true) h)) (c:Nat) {i:Int} {h:ae} (e:d c i h):LL SS gI [1,1,0,1,0,0] (mJ l i) h (KK SS gI [1,1,0,1,0] [] (EE SS gI Q)):=
 dg (mJ l) d (λc i f h e=>ai (step c i f h e)) c e
noncomputable def gJ:FD:=cI Tryz.f136 [([1,1,0,1,0,0],[0,3])]
abbrev hI(l:LB)(i:Int):LV:=[(strOf l),(.int .i64 i)]
theorem Bb(l:LB)(h:ae)(Q:VH)(b:au (decide ((((l:LB).length:Int):Int)<1)) (Q (.bool false) h) (au (decide ((((l:LB).length:Int):Int)>1000)) (Q (.bool false) h) (xI .u8 (bR SS.P 9 (strOf l) (.int .i64 0)) λa=>au (((a:Int)==48)) (au (decide ((((l:LB).length:Int):Int)>1)) (Q (.bool false) h) (LL SS gJ [1,1,0,1,0,0] (hI l 0) h (KK SS gJ [1,1,0,1,0] [] (EE SS gJ Q)))) (LL SS gJ [1,1,0,1,0,0] (hI l 0) h (KK SS gJ [1,1,0,1,0] [] (EE SS gJ Q)))))):FW SS 136 [(strOf l)] h Q:=cN gJ Tryz.func136 (ai b)
theorem vw(l:LB)  (d:Nat->Int->ae->Prop) (Q:VH) (step:∀(c:Nat)(i:Int)(f:Nat->Value)(h:ae),d c i h->au (decide ((i:Int)<((l:LB).length:Int))) (xI .u8 (bR SS.P 9 (strOf l) (.int .i64 i)) λb=>au (decide ((b:Int)<48)) (Q (.bool false) h) (xI .u8 (bR SS.P 9 (strOf l) (.int .i64 i)) λa=>au (decide ((a:Int)>57)) (Q (.bool false) h) (aJ (fm (hI l) d) c [(strOf l),(.int .i64 (wrap .i64 (i+1)))] h))) (Q (.bool true) h)) (c:Nat) {i:Int} {h:ae} (e:d c i h):LL SS gJ [1,1,0,1,0,0] (hI l i) h (KK SS gJ [1,1,0,1,0] [] (EE SS gJ Q)):=
 dg (hI l) d (λc i f h e=>ai (step c i f h e)) c e
noncomputable def iG:FD:=cI Tryz.f154 [([1,1,0,1,0,0],[0,1,5])]
abbrev iH(a b:LB)(i:Int):LV:=[(strOf a),(strOf b),(.int .i64 i)]
theorem Fc(a b:LB)(h:ae)(Q:VH)(c:au (((((a:LB).length:Int):Int) !=((b:LB).length:Int))) (au (decide ((((a:LB).length:Int):Int)<((b:LB).length:Int))) (Q (.int .i64 (-1)) h) (Q (.int .i64 1) h)) (LL SS iG [1,1,0,1,0,0] (iH a b 0) h (KK SS iG [1,1,0,1,0] [] (EE SS iG Q)))):FW SS 154 [(strOf a),(strOf b)] h Q:=cN iG Tryz.func154 (ai c)
theorem td(a b:LB)  (g:Nat->Int->ae->Prop) (Q:VH) (step:∀(f:Nat)(i:Int)(k:Nat->Value)(h:ae),g f i h->au (decide ((i:Int)<((a:LB).length:Int))) (xI .u8 (bR SS.P 9 (strOf a) (.int .i64 i)) λe=>xI .u8 (bR SS.P 9 (strOf b) (.int .i64 i)) λd=>au (((e:Int) !=d)) (xI .u8 (bR SS.P 9 (strOf a) (.int .i64 i)) λc=>xI .u8 (bR SS.P 9 (strOf b) (.int .i64 i)) λa=>au (decide ((c:Int)<a)) (Q (.int .i64 (-1)) (room (room h 7) 7)) (Q (.int .i64 1) (room (room h 7) 7))) (aJ (fm (iH a b) g) f [(strOf a),(strOf b),(.int .i64 (wrap .i64 (i+1)))] (room h 7))) (Q (.int .i64 0) h)) (f:Nat) {i:Int} {h:ae} (j:g f i h):LL SS iG [1,1,0,1,0,0] (iH a b i) h (KK SS iG [1,1,0,1,0] [] (EE SS iG Q)):=
 dg (iH a b) g (λf i k h j=>ai (step f i k h j)) f j
noncomputable def YT:FD:=cI Tryz.f151 []
theorem U9(a:OA)(n c:Nat)(i:Int)(h:ae)(Q:VH)(d:au (decide ((i:Int)<(n:Int))) (iP 22 (.slice a n c) (.int .i64 i) λb=>lI h b λa=>Q (.int .i64 a) h) (Q (.int .i64 0) h)):FW SS 151 [(.slice a n c),(.int .i64 i)] h Q:=cN YT Tryz.func151 (ai d)
noncomputable def jJ:FD:=cI Tryz.f150 [([1,1,0,1,0,0],[0,3,4])]
abbrev l7(l:LB)(i:Int)(a:OA)(n c:Nat):LV:=[(strOf l),(.slice a n c),(.int .i64 i)]
theorem H8(l:LB)(h:ae)(Q:VH)(a:LL SS jJ [1,1,0,1,0,0] [(strOf l),nA,(.int .i64 (wrap .i64 (((l:LB).length:Int)-1)))] h (KK SS jJ [1,1,0,1,0] [] (EE SS jJ Q))):FW SS 150 [(strOf l)] h Q:=cN jJ Tryz.func150 (ai a)
theorem ud(l:LB)  (m:Nat->Int->OA->Nat->Nat->ae->Prop) (Q:VH) (step:∀(k:Nat)(i:Int)(a:OA)(n c:Nat)(p:Nat->Value)(h:ae),m k i a n c h->au (decide ((i:Int)>=0)) (xI .u8 (bR SS.P 9 (strOf l) (.int .i64 i)) λj=>xR (aG SS.P 22 1 [(0,(.int .i64 (wrap .i64 (wrap .u8 (j-48)))))]) h λ_ e f g=>xE (bI SS.P 22 22 (.slice a n c) (sA (h.next) e f) g) g λa b c _ d=>aJ (ZN (l7 l) m) k [(strOf l),(.slice a b c),(.int .i64 (wrap .i64 (i-1)))] d) (Q (.slice a n c) h)) (k:Nat) {i:Int} {a:OA} {n c:Nat} {h:ae} (o:m k i a n c h):LL SS jJ [1,1,0,1,0,0] (l7 l i a n c) h (KK SS jJ [1,1,0,1,0] [] (EE SS jJ Q)):=
 Vl (l7 l) m (λk i a n c p h o=>ai (step k i a n c p h o)) k o
variable{i:Nat}{a:Option Addr}{n:Nat}{x:List Nat}
theorem Zf:SS.P.underlying 9=some .string:=by kernel_rfl
theorem By(l:List UInt8){h:ae}{i:Int}(b:0<=i)(a:i<l.length):bR SS.P 9 (strOf l) (.int .i64 i)=some (.int .u8 ((l.getD i.toNat 0).toNat:Nat)):=oC Zf l _ b a
theorem Tk{c:UInt8}(a:¬(c.toNat:Int)<48)(b:¬(c.toNat:Int)>57):bS c=true:=by
 unfold bS;simp;omega
theorem HJ{c:UInt8}(h:(c.toNat:Int)<48\/(c.toNat:Int)>57):bS c=false:=by
 unfold bS;simp;omega
theorem vJ(b:i<s.length)(c:(s.take i).all bS=true)(a:bS (s.getD i 0)=true):(s.take (i+1)).all bS=true:=by
 rw[List.take_succ_eq_append_getElem b,List.all_append,c];rw[gD,gE b]at a;simpa using a
theorem uG(b:i<s.length)(a:bS (s.getD i 0)=false):s.all bS=false:=by
 rw[gD,gE b]at a;exact List.all_eq_false.2 ⟨s[i],getElem_mem b,by simpa using a⟩
theorem Ed(h:1000<s.length):Num.valid s=false:=by
 unfold Num.valid;rw[decide_eq_false (by omega:¬s.length<=1000)];simp
theorem Ee(h:1<s.length)(b:s.getD 0 0=48):Num.valid s=false:=by
 unfold Num.valid
 cases s with
 |nil=>rfl
 |cons a s=>
  have b:a=48:=b;subst b;rw[decide_eq_true h];simp
theorem vf(e:s≠[])(c:s.length<=1000)(d:1<s.length->s.getD 0 0≠48):Num.valid s=s.all bS:=by
 unfold Num.valid
 cases s with
 |nil=>exact absurd rfl e
 |cons a s=>
  rw[decide_eq_true c];by_cases h:1<(a::s).length
  ·have b:a≠48:=d h;rw[decide_eq_true h];simp[b]
  ·rw[decide_eq_false h];simp
theorem GN{c:UInt8}:((c.toNat:Int)==48)=true↔c=48:=by
 rw[beq_iff_eq];refine⟨λh=>UInt8.toNat_inj.1 ?_,λh=>by rw[h];rfl⟩;have a:(48:UInt8).toNat=48:=rfl;omega
theorem dL(l:List UInt8)(h:ae):FW SS 171 [strOf l] h (λv o=>v = .bool (Num.valid l)/\o=h):=by
 by_cases j:l.length<=1000
 case neg=>
  refine A6 l h _ (aa (λa=>?_) (λa=>aa (λd=>?_) (λd=>?_)))
  ·obtain rfl:l=[]:=by simpa using a
   exact⟨rfl,rfl⟩
  ·exact⟨by rw[Ed (by omega)],rfl⟩
  ·have:=dF d;omega
 have L:=λ(n:Num.valid l=l.all bS)=>vt l (λm i g=>0<=i/\i<=l.length/\m=l.length-i.toNat/\(l.take i.toNat).all bS=true/\g=h) (λv o=>v = .bool (Num.valid l)/\o=h) (by
  intro m i;intros;rename_i g t;obtain⟨a,d,k,b,rfl⟩:=t;refine aa (λc=>?_) (λc=>?_)
  ·have c:=dT c;have f:i.toNat<l.length:=by omega
   refine⟨_,By (h:=g) l a c,aa (λq=>?_) (λq=>⟨_,By (h:=g) l a c,aa (λp=>?_) (λp=>?_)⟩)⟩
   ·exact⟨by rw[n,uG f (HJ (.inl (dT q)))],rfl⟩
   ·exact⟨by rw[n,uG f (HJ (.inr (dT p)))],rfl⟩
   ·have s:wrap .i64 (i+1)=i+1:=aB (by omega) (by omega);refine cd (m-1) (by omega) ?_;rw[s];refine⟨by omega,by omega,by omega,?_,rfl⟩;rw[show(i+1).toNat=i.toNat+1 by omega];exact vJ f b (Tk (dF q) (dF p))
  ·have c:=dF c;refine⟨?_,rfl⟩;rw[n,<-b,take_of_length_le (by omega)])
 refine A6 l h _ (aa (λa=>?_) (λa=>aa (λd=>?_) (λd=>?_)))
 ·obtain rfl:l=[]:=by simpa using a
  exact⟨rfl,rfl⟩
 ·have:=dT d;omega
 ·have a:l≠[]:=by simpa using a
  have r:=List.length_pos_iff.2 a;refine aa (λk=>⟨_,By (h:=h) l (by omega) (by omega),aa (λb=>?_) (λb=>?_)⟩) (λk=>?_)
  ·exact⟨by rw[Ee (by have:=dT k;omega) (GN.1 b)],rfl⟩
  ·exact L (vf a j λ_ e=>by have b:(((l.getD 0 0).toNat:Int)==48)=false:=b;rw[GN.2 e]at b;cases b) l.length ⟨by omega,by omega,by simp,by simp,rfl⟩
  ·exact L (vf a j λe=>by have:=dF k;omega) l.length ⟨by omega,by omega,by simp,by simp,rfl⟩
theorem dv(l:List UInt8)(h:ae):FW SS 136 [strOf l] h (λv o=>v = .bool (Num.valid l)/\o=h):=by
 by_cases j:l.length<=1000
 case neg=>
  refine Bb l h _ (aa (λa=>?_) (λa=>aa (λd=>?_) (λd=>?_)))
  ·have a:=dT a;omega
  ·exact⟨by rw[Ed (by omega)],rfl⟩
  ·have:=dF d;omega
 have L:=λ(n:Num.valid l=l.all bS)=>vw l (λm i g=>0<=i/\i<=l.length/\m=l.length-i.toNat/\(l.take i.toNat).all bS=true/\g=h) (λv o=>v = .bool (Num.valid l)/\o=h) (by
  intro m i;intros;rename_i g t;obtain⟨a,d,k,b,rfl⟩:=t;refine aa (λc=>?_) (λc=>?_)
  ·have c:=dT c;have f:i.toNat<l.length:=by omega
   refine⟨_,By (h:=g) l a c,aa (λq=>?_) (λq=>⟨_,By (h:=g) l a c,aa (λp=>?_) (λp=>?_)⟩)⟩
   ·exact⟨by rw[n,uG f (HJ (.inl (dT q)))],rfl⟩
   ·exact⟨by rw[n,uG f (HJ (.inr (dT p)))],rfl⟩
   ·have s:wrap .i64 (i+1)=i+1:=aB (by omega) (by omega);refine cd (m-1) (by omega) ?_;rw[s];refine⟨by omega,by omega,by omega,?_,rfl⟩;rw[show(i+1).toNat=i.toNat+1 by omega];exact vJ f b (Tk (dF q) (dF p))
  ·have c:=dF c;refine⟨?_,rfl⟩;rw[n,<-b,take_of_length_le (by omega)])
 refine Bb l h _ (aa (λa=>?_) (λa=>aa (λd=>?_) (λd=>?_)))
 ·have a:=dT a;obtain rfl:l=[]:=List.eq_nil_of_length_eq_zero (by omega);exact⟨rfl,rfl⟩
 ·have:=dT d;omega
 ·have a:=dF a;have a:l≠[]:=λe=>by subst e;simp at a
  have r:=List.length_pos_iff.2 a;refine⟨_,By (h:=h) l (by omega) (by omega),aa (λb=>aa (λk=>?_) (λk=>?_)) (λb=>?_)⟩
  ·exact⟨by rw[Ee (by have:=dT k;omega) (GN.1 b)],rfl⟩
  ·exact L (vf a j λe=>by have:=dF k;omega) l.length ⟨by omega,by omega,by simp,by simp,rfl⟩
  ·exact L (vf a j λ_ e=>by have b:(((l.getD 0 0).toNat:Int)==48)=false:=b;rw[GN.2 e]at b;cases b) l.length ⟨by omega,by omega,by simp,by simp,rfl⟩
theorem Mr{a b:Nat}(h:((a:Int) !=b)=true):a≠b:=by
 intro e;subst e;simp at h
theorem L4{a b:Nat}(h:((a:Int) !=b)=false):a=b:=by
 by_cases e:a=b
 ·exact e
 ·exfalso;have:(a:Int)≠b:=by omega
  simp[this]at h
theorem qu(m n:Nat)(y:(ag m).length<9223372036854775807)(x:(ag n).length<9223372036854775807)(h:ae)(w:Wf h):FW SS 154 [strOf (ag m),strOf (ag n)] h (λv q=>v = .int .i64 (eI m n)/\Ok h q):=by
 have L:=λ(s:(ag m).length=(ag n).length)=>td (ag m) (ag n) (λk i g=>0<=i/\i<=(ag m).length/\k=(ag m).length-i.toNat/\(ag m).take i.toNat=(ag n).take i.toNat/\Ok h g) (λv q=>v = .int .i64 (eI m n)/\Ok h q) (by
  intro k i;intros;rename_i g u;obtain⟨a,f,z,e,j⟩:=u;refine aa (λb=>?_) (λb=>?_)
  ·have b:=dT b;have r:i.toNat<(ag m).length:=by omega
   have p:i.toNat<(ag n).length:=by omega
   have l:(ag m)[i.toNat]?=some ((ag m).getD i.toNat 0):=by rw[gD,gE r];rfl
   have o:(ag n)[i.toNat]?=some ((ag n).getD i.toNat 0):=by rw[gD,gE p];rfl
   refine⟨_,By (h:=g) _ a b,_,By (h:=g) _ a (by omega),aa (λc=>?_) (λc=>?_)⟩
   ·refine⟨_,By (h:=g) _ a b,_,By (h:=g) _ a (by omega),aa (λd=>?_) (λd=>?_)⟩
    ·have d:=dT d;have:=oS (cZ n) (cZ m) s e l o (UInt8.lt_iff_toNat_lt.2 (by omega));rw[bu,bu]at this;exact⟨by rw[lj this],(j.room 7).room 7⟩
    ·have d:=dF d;have c:=Mr c;have:=oS (cZ m) (cZ n) s.symm e.symm o l (UInt8.lt_iff_toNat_lt.2 (by omega));rw[bu,bu]at this;exact⟨by rw[lh this],(j.room 7).room 7⟩
   ·have c:=L4 c;have t:wrap .i64 (i+1)=i+1:=aB (by omega) (by omega);refine cd (k-1) (by omega) ?_;rw[t];refine⟨by omega,by omega,by omega,?_,j.room 7⟩;rw[show(i+1).toNat=i.toNat+1 by omega,List.take_add_one,List.take_add_one,e,l,o,UInt8.toNat_inj.1 c]
  ·have b:=dF b;rw[take_of_length_le (by omega),take_of_length_le (by omega)]at e;exact⟨by rw[tw e,qE],j⟩)
 refine Fc _ _ h _ (aa (λa=>aa (λf=>?_) (λf=>?_)) (λa=>?_))
 ·exact⟨by rw[lj (lQ (by have:=dT f;omega))],Ok.refl w⟩
 ·have a:=Mr a;exact⟨by rw[lh (lQ (by have:=dF f;omega))],Ok.refl w⟩
 ·have a:=L4 a;exact L a (ag m).length ⟨by omega,by omega,by simp,by simp,Ok.refl w⟩
def iv(d:Nat):Value:= .int .i64 (d:Int)
theorem qv:SS.P.underlying 22=some (.slice 3):=by kernel_rfl
theorem RX:aF SS.P 3=some 1:=by kernel_rfl
theorem GO:SS.P.underlying 3=some (.int .i64):=by kernel_rfl
theorem FE:Go.Ab.isAgg SS.P 3=false:=by kernel_rfl
noncomputable def re3:TypeInfo:=(eU SS.P 3).getD default
theorem U5:eU SS.P 3=some re3:=by kernel_rfl
theorem Kr:re3.size=1:=by kernel_rfl
theorem Gi:re3.bytes=8:=by kernel_rfl
theorem tJ(l:List Nat)(i:Nat)(h:i<l.length):(l.map iv).getD i undef = .int .i64 (l.getD i 0:Nat):=by
 simp[gD,getElem?_map,gE h,iv]
theorem ub{c:Nat}(r:Rd h 3 (.slice a n c) (x.map iv))(i:Nat):FW SS 151 [.slice a n c,.int .i64 (i:Int)] h (λv g=>v = .int .i64 (x.getD i 0:Nat)/\g=h):=by
 have e:=r.len;rw[lM]at e;refine U9 a n c i h _ (aa (λb=>?_) (λb=>?_))
 ·have b:=dT b;obtain⟨p,f,d⟩:=r.at_ qv RX GO FE (k:= .i64) (i:=(i:Int)) (by omega) (by rw[lM];omega);rw[Int.toNat_natCast,tJ x i (by omega)]at d;exact⟨p,f,_,d,rfl,rfl⟩
 ·have b:=dF b;refine⟨?_,rfl⟩;rw[gD,List.getElem?_eq_none (by omega)];rfl
noncomputable def mM:FD:=cI Tryz.f155 [([1,1,1,0,1,0,0],[0,1,5,6,7])]
abbrev iR(a:OA)(n c:Nat)(b:OA)(m d:Nat)(k cc:Nat)(r:OA)(e f:Nat):LV:=[(.slice a n c),(.slice b m d),(.slice r e f),(iA cc),(iA k)]
theorem MZ(a:OA)(n c:Nat)(b:OA)(m d:Nat)(h:ae)(Q:VH)(e:LL SS mM [1,1,1,0,1,0,0] (iR a n c b m d 0 0 none 0 0) h (KK SS mM [1,1,1,0,1,0] [] (EE SS mM Q))):FW SS 155 [(.slice a n c),(.slice b m d)] h Q:=cN mM Tryz.func155 (ai e)
theorem wQ(a:OA)(n c:Nat)(b:OA)(m d:Nat)  (x:Nat->Nat->Nat->OA->Nat->Nat->ae->Prop) (Q:VH) (step:∀(y:Nat)(k cc:Nat)(r:OA)(v w:Nat)(A:Nat->Value)(h:ae),x y k cc r v w h->au (decide (((k:Int):Int)<(n:Int))) (FW SS 151 [(.slice a n c),(iA k)] h λt u=>yI .i64 t λs=>FW SS 151 [(.slice b m d),(iA k)] u λp q=>yI .i64 p λo=>au (decide ((wrap .i64 (wrap .i64 (s-o)-(cc:Int)):Int)<0)) (xR (aG SS.P 22 1 [(0,(.int .i64 (wrap .i64 (wrap .i64 (wrap .i64 (s-o)-(cc:Int))+10))))]) q λ_ i j l=>xE (bI SS.P 22 22 (.slice r v w) (sA (q.next) i j) l) l λe f g _ h=>aJ (Cg (iR a n c b m d) x) y [(.slice a n c),(.slice b m d),(.slice e f g),(.int .i64 1),(.int .i64 (wrap .i64 ((k:Int)+1)))] h) (xR (aG SS.P 22 1 [(0,(.int .i64 (wrap .i64 (wrap .i64 (s-o)-(cc:Int)))))]) q λ_ i j l=>xE (bI SS.P 22 22 (.slice r v w) (sA (q.next) i j) l) l λe f g _ h=>aJ (Cg (iR a n c b m d) x) y [(.slice a n c),(.slice b m d),(.slice e f g),(.int .i64 0),(.int .i64 (wrap .i64 ((k:Int)+1)))] h)) (Q (.slice r v w) h)) (y:Nat) {k cc:Nat} {r:OA} {v w:Nat} {h:ae} (z:x y k cc r v w h):LL SS mM [1,1,1,0,1,0,0] (iR a n c b m d k cc r v w) h (KK SS mM [1,1,1,0,1,0] [] (EE SS mM Q)):=
 Gr (iR a n c b m d) x (λy k cc r v w A h z=>ai (step y k cc r v w A h z)) y z
noncomputable def eF:FD:=cI Tryz.f153 [([1,1,0,0,0],[0,3]),([1,1,1,1,0,1,0,0],[0,4,5])]
abbrev nN(a:OA)(n c:Nat)(z:Int):LV:=[(.slice a n c),(.int .i64 z)]
abbrev iS(a:OA)(n c:Nat)(i:Int)(r:OA)(b d:Nat):LV:=[(.slice a n c),(.slice r b d),(.int .i64 i)]
theorem M3(a:OA)(n c:Nat)(h:ae)(Q:VH)(b:LL SS eF [1,1,0,0,0] [(.slice a n c),(iA n)] h (KK SS eF [1,1,0,0] [] (EE SS eF Q))):FW SS 153 [(.slice a n c)] h Q:=cN eF Tryz.func153 (ai b)
theorem wR(a:OA)(n c:Nat)  (f:Nat->Int->ae->Prop) (Q:VH) (step:∀(e:Nat)(z:Int)(i:Nat->Value)(h:ae),f e z h->au (decide ((z:Int)>1)) (iP 22 (.slice a n c) (.int .i64 (wrap .i64 (z-1))) λd=>lI h d λb=>au (((b:Int)==0)) (aJ (fm (nN a n c) f) e [(.slice a n c),(.int .i64 (wrap .i64 (z-1)))] h) (LL SS eF [1,1,1,1,0,1,0,0] (iS a n c (wrap .i64 (z-1)) none 0 0) h (KK SS eF [1,1,1,1,0,1,0] [] (EE SS eF Q)))) (LL SS eF [1,1,1,1,0,1,0,0] (iS a n c (wrap .i64 (z-1)) none 0 0) h (KK SS eF [1,1,1,1,0,1,0] [] (EE SS eF Q)))) (e:Nat) {z:Int} {h:ae} (g:f e z h):LL SS eF [1,1,0,0,0] (nN a n c z) h (KK SS eF [1,1,0,0] [] (EE SS eF Q)):=
 dg (nN a n c) f (λe z i h g=>ai (step e z i h g)) e g
theorem wS(a:OA)(n c:Nat)  (s:Nat->Int->OA->Nat->Nat->ae->Prop) (Q:VH) (step:∀(q:Nat)(i:Int)(r:OA)(o p:Nat)(u:Nat->Value)(h:ae),s q i r o p h->au (decide ((i:Int)>=0)) (iP 22 (.slice a n c) (.int .i64 i) λm=>lI h m λl=>xR (aG SS.P 172 1 [(0,(.int .u8 (wrap .u8 (wrap .i64 (48+l)))))]) h λ_ g j k=>xE (bI SS.P 172 172 (.slice r o p) (sA (h.next) g j) k) k λb d e _ f=>aJ (ZN (iS a n c) s) q [(.slice a n c),(.slice b d e),(.int .i64 (wrap .i64 (i-1)))] f) (au ((((o:Int):Int)==0)) (Q (strOf [48]) h) (xS (BI SS.P 172 9 (.slice r o p) h) λa=>Q (strOf a) h))) (q:Nat) {i:Int} {r:OA} {o p:Nat} {h:ae} (t:s q i r o p h):LL SS eF [1,1,1,1,0,1,0,0] (iS a n c i r o p) h (KK SS eF [1,1,1,1,0,1,0] [] (EE SS eF Q)):=
 Vl (iS a n c) s (λq i r o p u h t=>ai (step q i r o p u h t)) q t
variable{g:ae}{m:Nat}{y:List Nat}
theorem Pr(z:Int):aG SS.P 22 1 [(0,.int .i64 z)]=some (.cells [.int .i64 z] 3 1 true,mN 1 1):=by kernel_rfl
theorem ZZ(z:Int):aG SS.P 172 1 [(0,.int .u8 z)]=some (.cells [.int .u8 z] 5 1 true,mN 1 1):=by kernel_rfl
theorem Bf:SS.P.underlying 172=some (.slice 5):=by kernel_rfl
theorem un5:SS.P.underlying 5=some (.int .u8):=by kernel_rfl
theorem zz5:aF SS.P 5=some 1:=by kernel_rfl
theorem ag5:Go.Ab.isAgg SS.P 5=false:=by kernel_rfl
noncomputable def re5:TypeInfo:=(eU SS.P 5).getD default
theorem abl:eU SS.P 5=some re5:=by kernel_rfl
theorem U6:re5.size=1:=by kernel_rfl
theorem Q0:re5.bytes=1:=by kernel_rfl
theorem D2(d:Wf g)(e:Ok g h){v:Value}{a:List Value}(o:ep g h 3 v a)(z:Int)(f:a.length<=100000):
  ∃(b:Option Addr)(n c:Nat)(u:dS),bI SS.P 22 22 v (.slice (some ⟨h.next,0,none⟩) 1 1) (h.push (.cells [.int .i64 z] 3 1 true))=some (.slice b n c,u)/\n=a.length+1/\ep g (u.app (h.push (.cells [.int .i64 z] 3 1 true))) 3 (.slice b n c) (a++[.int .i64 z])/\Ok g (u.app (h.push (.cells [.int .i64 z] 3 1 true))):=
 ep.snoc qv U5 Kr d e o rfl (by rw[Gi];omega) (by omega)
theorem OF(d:Wf g)(e:Ok g h){v:Value}{a:List Value}(o:ep g h 5 v a)(z:Int)(f:a.length<=100000):
  ∃(b:Option Addr)(n c:Nat)(u:dS),bI SS.P 172 172 v (.slice (some ⟨h.next,0,none⟩) 1 1) (h.push (.cells [.int .u8 z] 5 1 true))=some (.slice b n c,u)/\n=a.length+1/\ep g (u.app (h.push (.cells [.int .u8 z] 5 1 true))) 5 (.slice b n c) (a++[.int .u8 z])/\Ok g (u.app (h.push (.cells [.int .u8 z] 5 1 true))):=
 ep.snoc Bf abl U6 d e o rfl (by rw[Q0];omega) (by omega)
theorem PC(c:UInt8)(l:List UInt8):fv (c::l)=fv l++[jt c]:=by simp[fv]
theorem FT(h:i<s.length):s.drop i=s.getD i 0::s.drop (i+1):=by
 rw[gD,gE h,drop_eq_getElem_cons h];rfl
theorem CI(a:s.all bS=true){i:Nat}(h:i<s.length):bS (s.getD i 0)=true:=by
 rw[gD,gE h];exact all_eq_true.1 a _ (getElem_mem h)
def ja(h:ae)(e:TypeId)(d:List Value):VH:=λv b=>∃a n c,v = .slice a n c/\ep h b e (.slice a n c) d/\Ok h b
theorem sj(l:List UInt8)(C:l.all bS=true)(t:l.length<=100000)(h:ae)(w:Wf h):FW SS 150 [strOf l] h (ja h 3 ((fv l).map iv)):=by
 have L:=ud l (λk i a n c g=> -1<=i/\i<l.length/\k=(i+1).toNat/\ep h g 3 (.slice a n c) ((fv (l.drop (i+1).toNat)).map iv)/\Ok h g) (ja h 3 ((fv l).map iv)) (by
  intro k i a n c;intros;rename_i g y;obtain⟨F,x,E,r,s⟩:=y;refine aa (λf=>?_) (λf=>?_)
  ·have f:=dT f;have j:i.toNat<l.length:=by omega
   have p:=CI C j;have D:=lk.1 p;refine⟨_,By (h:=g) l f x,_,_,_,Pr _,?_⟩;obtain⟨b,m,d,u,B,G,o,z⟩:=D2 w s r (wrap .i64 (wrap .u8 ((((l.getD i.toNat 0).toNat:Nat):Int)-48))) (by simp[fv];omega);refine⟨b,m,d,u,B,?_⟩;have e:wrap .i64 (i-1)=i-1:=aB (by omega) (by omega);refine TF (k-1) (by omega) ?_;rw[e];refine⟨by omega,by omega,by omega,?_,z⟩;have q:wrap .i64 (wrap .u8 ((((l.getD i.toNat 0).toNat:Nat):Int)-48))=((jt (l.getD i.toNat 0):Nat):Int):=by
    rw[sL (by omega) (by omega),aB (by omega) (by omega)];unfold jt;omega
   rw[q]at o;have A:(i-1+1).toNat=i.toNat:=by omega
   have v:(i+1).toNat=i.toNat+1:=by omega
   rw[v]at o;rw[q,A,FT j,PC,map_append];exact o
  ·have f:=dF f;obtain rfl:i = -1:=by omega
   exact⟨a,n,c,rfl,r,s⟩)
 have e:wrap .i64 ((l.length:Int)-1)=(l.length:Int)-1:=aB (by omega) (by omega);refine H8 l h _ ?_;refine L l.length ⟨by rw[e];omega,by rw[e];omega,by rw[e];omega,?_,Ok.refl w⟩;rw[e,show((l.length:Int)-1+1).toNat=l.length by omega,List.drop_length];exact .inl ⟨rfl,rfl⟩
theorem DT{b:Option Addr}{c:Nat}(N:Rd h 3 (.slice a n c) (x.map iv))(S:Rd h 3 (.slice b m i) (y.map iv))(R:∀i∈x,i<10)(U:∀i∈y,i<10)(O:x.length<=100000)(w:Wf h):
  FW SS 155 [.slice a n c,.slice b m i] h (ja h 3 ((bj fk x y 0 x.length 0).map iv)):=by
 have W:n=x.length:=by have:=N.len;rwa[lM]at this
 have J:∀k,eM fk x y 0 0 k<=1:=NL (λp q c _=>by unfold fk;split<;>simp) x y 0 0 (by omega);have L:=wQ a n c b m i (λt k cc r z B g=>k<=x.length/\t=x.length-k/\cc=eM fk x y 0 0 k/\ep h g 3 (.slice r z B) ((bj fk x y 0 k 0).map iv)/\Ok h g) (ja h 3 ((bj fk x y 0 x.length 0).map iv)) (by
  intro t k cc r z B;intros;rename_i g T;obtain⟨X,Z,P,F,o⟩:=T;have V:=J k;have hp:=aZ (by omega) R k;have Y:=aZ (by omega) U k;refine aa (λs=>?_) (λs=>?_)
  ·have s:=dT s;refine(ub (N.ok o) k).mono ?_;rintro _ _ ⟨rfl,rfl⟩;refine⟨_,rfl,(ub (S.ok o) k).mono ?_⟩;rintro _ _ ⟨rfl,rfl⟩;refine⟨_,rfl,?_⟩;have M:wrap .i64 (((x.getD k 0:Nat):Int)-((y.getD k 0:Nat):Int))=((x.getD k 0:Nat):Int)-((y.getD k 0:Nat):Int):=aB (by omega) (by omega);have I:wrap .i64 (((x.getD k 0:Nat):Int)-((y.getD k 0:Nat):Int)-(cc:Int))=((x.getD k 0:Nat):Int)-((y.getD k 0:Nat):Int)-(cc:Int):=aB (by omega) (by omega);have K:wrap .i64 ((k:Int)+1)=((k+1:Nat):Int):=by rw[aB (by omega) (by omega)];omega
   dsimp only;rw[M,I,K];have v:(bj fk x y 0 k 0).length=k:=eX _ _ _ _ _ _;have f:=ig fk x y k 0 0;have j:eM fk x y 0 0 (k+1)=(fk (x.getD (0+k) 0) (y.getD (0+k) 0) (eM fk x y 0 0 k)).2:=rfl;rw[Nat.zero_add,<-P]at f j;refine aa (λl=>?_) (λl=>?_)
   ·have l:=dT l;refine⟨_,_,_,Pr _,?_⟩;obtain⟨E,C,A,u,D,Q,e,H⟩:=D2 w o F (wrap .i64 (((x.getD k 0:Nat):Int)-((y.getD k 0:Nat):Int)-(cc:Int)+10)) (by rw[lM,v];omega);refine⟨E,C,A,u,D,?_⟩;have d:fk (x.getD k 0) (y.getD k 0) cc=(x.getD k 0+10-y.getD k 0-cc,1):=by unfold fk;rw[if_pos (by omega)]
    refine oZ (b:=1) (t-1) (by omega) ⟨by omega,by omega,by rw[j,d],?_,H⟩;rw[f,d,map_append];have G:wrap .i64 (((x.getD k 0:Nat):Int)-((y.getD k 0:Nat):Int)-(cc:Int)+10)=((x.getD k 0+10-y.getD k 0-cc:Nat):Int):=by rw[aB (by omega) (by omega)];omega
    rw[G]at e⊢;exact e
   ·have l:=dF l;refine⟨_,_,_,Pr _,?_⟩;obtain⟨E,C,A,u,D,Q,e,H⟩:=D2 w o F (((x.getD k 0:Nat):Int)-((y.getD k 0:Nat):Int)-(cc:Int)) (by rw[lM,v];omega);refine⟨E,C,A,u,D,?_⟩;have d:fk (x.getD k 0) (y.getD k 0) cc=(x.getD k 0-y.getD k 0-cc,0):=by unfold fk;rw[if_neg (by omega)]
    refine oZ (b:=0) (t-1) (by omega) ⟨by omega,by omega,by rw[j,d],?_,H⟩;rw[f,d,map_append];have G:((x.getD k 0:Nat):Int)-((y.getD k 0:Nat):Int)-(cc:Int)=((x.getD k 0-y.getD k 0-cc:Nat):Int):=by omega
    rw[G]at e⊢;exact e
  ·have s:=dF s;obtain rfl:k=x.length:=by omega
   exact⟨r,z,B,rfl,F,o⟩)
 exact MZ a n c b m i h _ (L x.length (k:=0) (cc:=0) ⟨by omega,by omega,rfl,.inl ⟨rfl,rfl⟩,Ok.refl w⟩)
theorem OG(r:Rd h 5 v (s.map s9)):BI SS.P 172 9 v h=some (strOf s):=Zg Bf Zf un5 r
theorem Fi{z:Nat}(b:i<z)(c:z<=x.length):((x.take z).drop i).reverse=((x.take z).drop (i+1)).reverse++[x.getD i 0]:=by
 have a:i<(x.take z).length:=by rw[length_take];omega
 rw[drop_eq_getElem_cons a,List.reverse_cons,List.getElem_take,gD,gE (by omega)];rfl
theorem sk{c:Nat}(L:Rd h 3 (.slice a n c) (x.map iv))(P:∀d∈x,d<10)(V:x.length<=100000)(w:Wf h):
  FW SS 153 [.slice a n c] h (λv D=>v=strOf (ag (Num.bv 10 x))/\Ok h D):=by
 have hn:n=x.length:=by have:=L.len;rwa[lM]at this
 have Q:=λ(f:Nat) (hz:f<=x.length) (T:0<x.length->0<f) (W:0<x.length->tz (x.take f)=ag (Num.bv 10 x))=>wS a n c (λy i r H R g=> -1<=i/\i<(f:Int)/\y=(i+1).toNat/\ep h g 5 (.slice r H R) ((((x.take f).drop (i+1).toNat).reverse.map eW).map s9)/\Ok h g) (λv D=>v=strOf (ag (Num.bv 10 x))/\Ok h D) (by
  intro y i r H R;intros;rename_i g M;obtain⟨h1,h2,Y,t,J⟩:=M;refine aa (λq=>?_) (λq=>?_)
  ·have q:=dT q;obtain⟨p,K,F⟩:=(L.ok J).at_ qv RX GO FE (k:= .i64) (i:=i) q (by rw[lM];omega);rw[tJ x i.toNat (by omega)]at F;refine⟨p,K,_,F,_,_,_,ZZ _,?_⟩;have N:=aZ (by omega) P i.toNat;obtain⟨b,m,d,u,g6,g7,O,g9⟩:=OF w J t (wrap .u8 (wrap .i64 (48+((x.getD i.toNat 0:Nat):Int)))) (by simp;omega);refine⟨b,m,d,u,g6,?_⟩;have I:wrap .i64 (i-1)=i-1:=aB (by omega) (by omega);refine TF (y-1) (by omega) ?_;rw[I];refine⟨by omega,by omega,by omega,?_,g9⟩;rw[show(i-1+1).toNat=i.toNat by omega,Fi (by omega) hz,map_append,map_append];rw[show(i+1).toNat=i.toNat+1 by omega]at O;have X:s9 (eW (x.getD i.toNat 0)) = .int .u8 (wrap .u8 (wrap .i64 (48+((x.getD i.toNat 0:Nat):Int)))):=by
    unfold s9;rw[jw N,aB (by omega) (by omega),sL (by omega) (by omega)]
    first|rfl|(congr 1;omega)
   show ep h _ 5 _ (_++[s9 (eW (x.getD i.toNat 0))]);rw[X];exact O
  ·have q:=dF q;obtain rfl:i = -1:=by omega
   have e0:((-1:Int)+1).toNat=0:=rfl;rw[e0,drop_zero]at t;have S:=t.len;simp only[lM,List.length_reverse,length_take]at S;refine aa (λo=>?_) (λo=>?_)
   ·have o:(H:Int)=0:=by simpa using o
    have E:x=[]:=by
     rcases Nat.eq_zero_or_pos x.length with e|e
     ·exact List.eq_nil_of_length_eq_zero e
     ·have:=T e;omega
    subst E;exact⟨by rw[show Num.bv 10 []=0 from rfl,oa],J⟩
   ·have o:¬(H:Int)=0:=by simpa using o
    have E:0<x.length:=by omega
    have:=OG t.rd;rw[show((x.take f).reverse.map eW)=tz (x.take f)from rfl,W E]at this;exact⟨_,this,rfl,J⟩)
 have s:∀(f:Nat),ep h h 5 (.slice none 0 0) ((((x.take f).drop ((f:Int)-1+1).toNat).reverse.map eW).map s9):=λf=>by
  rw[show((f:Int)-1+1).toNat=f by omega,List.drop_of_length_le (by rw[length_take];omega)];exact .inl ⟨rfl,rfl⟩
 have L1:=wR a n c (λy z g=>0<=z/\z<=x.length/\y=z.toNat/\(0<x.length->0<z)/\(∀j:Nat,z<=j->x.getD j 0=0)/\g=h) (λv D=>v=strOf (ag (Num.bv 10 x))/\Ok h D) (by
  intro y z;intros;rename_i g M;obtain⟨h1,h2,Y,t,q,rfl⟩:=M;obtain⟨f,rfl⟩:∃f:Nat,z=f:=⟨z.toNat,by omega⟩
  have I:wrap .i64 ((f:Int)-1)=(f:Int)-1:=aB (by omega) (by omega);have B:(1<f->x.getD (f-1) 0≠0)->0<x.length->tz (x.take f)=ag (Num.bv 10 x):=λZ C=>by
   rw[<-Cm (l:=x) (n:=f) (λj U=>q j (by omega))];refine OY (λd N=>P d (List.mem_of_mem_take N)) (λe=>?_) (λA=>?_)
   ·have:=congrArg List.length e;rw[length_take]at this;have h9:min f x.length=0:=this;have:=t C;omega
   ·rw[length_take]at A;have G:=Z (by omega);rw[List.getLast?_eq_getElem?,length_take,List.getElem?_take,if_pos (by omega)];rw[gD,gE (by omega)]at G;rw[show min f x.length-1=f-1 by omega,gE (by omega)];simpa using G
  refine aa (λo=>?_) (λo=>?_)
  ·have o:=dT o;rw[I];obtain⟨p,K,F⟩:=L.at_ qv RX GO FE (k:= .i64) (i:=(f:Int)-1) (by omega) (by rw[lM];omega);rw[tJ x _ (by omega),show((f:Int)-1).toNat=f-1 by omega]at F;refine⟨p,K,_,F,aa (λA=>?_) (λA=>?_)⟩
   ·have A:((x.getD (f-1) 0:Nat):Int)=0:=by simpa using A
    refine cd (y-1) (by omega) ⟨by omega,by omega,by omega,λ_=>by omega,λj U=>?_,rfl⟩;rcases lt_or_ge j f with G|G
    ·obtain rfl:j=f-1:=by omega
     omega
    ·exact q j (by omega)
   ·have A:¬((x.getD (f-1) 0:Nat):Int)=0:=by simpa using A
    exact Q f (by omega) (λC=>by have:=t C;omega) (B λ_=>by omega) f ⟨by omega,by omega,by omega,s f,Ok.refl w⟩
  ·have o:=dF o;rw[I];exact Q f (by omega) (λC=>by have:=t C;omega) (B λhh=>by omega) f ⟨by omega,by omega,by omega,s f,Ok.refl w⟩)
 refine M3 a n c h _ (L1 n (z:=(n:Int)) ⟨by omega,by omega,by omega,λC=>by omega,λj U=>?_,rfl⟩);rw[gD,List.getElem?_eq_none (by omega)];rfl
noncomputable def cG:FD:=cI Tryz.f137 [([1,1,1,1,1,0,1,0,0],[0,1,7,8,9]),([1,1,1,1,1,0,1,0,0,1,0,0,1,1,0,0,0],[0,1,7,8,9,10]),([1,1,1,1,1,1,1,0,0,0],[0,1,7,8,11])]
abbrev fT(a b:LB)(k:Nat)(r:LB)(q:OA)(d c:Nat):LV:=[(strOf a),(strOf b),(.slice q d c),(strOf r),(iA k)]
abbrev jK(a b:LB)(k:Nat)(q:OA)(e c:Nat)(r:LB)(d:Int):LV:=[(strOf a),(strOf b),(.slice q e c),(strOf r),(iA k),(.int .u8 d)]
abbrev l8(a b r:LB)(q:OA)(d c:Nat)(z:Nat):LV:=[(strOf a),(strOf b),(.slice q d c),(strOf r),(iA z)]
theorem Ra(a b:LB)(h:ae)(Q:VH)(i:FW SS 136 [(strOf a)] h λg h=>yB g λf=>au (!f) (Q (.tuple ⟨[(strOf []),(strOf []),(.int .i64 1)]⟩) h) (FW SS 136 [(strOf b)] h λd e=>yB d λc=>au (!c) (Q (.tuple ⟨[(strOf []),(strOf []),(.int .i64 1)]⟩) e) (au ((b:LB)==[48]) (Q (.tuple ⟨[(strOf []),(strOf []),(.int .i64 4)]⟩) e) (LL SS cG [1,1,1,1,1,0,1,0,0] (fT a b 0 ([48]) none 0 0) e (KK SS cG [1,1,1,1,1,0,1,0] [] (EE SS cG Q)))))):FW SS 137 [(strOf a),(strOf b)] h Q:=cN cG Tryz.func137 (ai i)
theorem yy(a b:LB)  (g:Nat->Nat->LB->OA->Nat->Nat->ae->Prop) (Q:VH) (step:∀(i:Nat)(k:Nat)(r:LB)(q:OA)(f e:Nat)(l:Nat->Value)(h:ae),g i k r q f e h->au (decide (((k:Int):Int)<((a:LB).length:Int))) (au ((r:LB)==[48]) (xS (bG SS.P 9 (strOf a) (some (iA k)) (some (.int .i64 (wrap .i64 ((k:Int)+1)))) none h) λc=>LL SS cG [1,1,1,1,1,0,1,0,0,1,0,0,1,1,0,0,0] (jK a b k q f e c 48) h (KK SS cG [1,0,0,1,1,0,0] [1,1,1,1,1,0,1,0,0] (RR cG [1,1,1,1,1,0,1,0,0] (Cg (fT a b) g) i (KK SS cG [1,1,1,1,1,0,1,0] [] (EE SS cG Q))))) (xS (bG SS.P 9 (strOf a) (some (iA k)) (some (.int .i64 (wrap .i64 ((k:Int)+1)))) none h) λd=>xS (ax SS.P .add 9 (strOf r) (strOf d)) λc=>LL SS cG [1,1,1,1,1,0,1,0,0,1,0,0,1,1,0,0,0] (jK a b k q f e c 48) h (KK SS cG [1,0,0,1,1,0,0] [1,1,1,1,1,0,1,0,0] (RR cG [1,1,1,1,1,0,1,0,0] (Cg (fT a b) g) i (KK SS cG [1,1,1,1,1,0,1,0] [] (EE SS cG Q)))))) (LL SS cG [1,1,1,1,1,1,1,0,0,0] (l8 a b r q f e 0) h (KK SS cG [1,1,1,1,1,1,1,0,0] [] (EE SS cG Q)))) (i:Nat) {k:Nat} {r:LB} {q:OA} {f e:Nat} {h:ae} (j:g i k r q f e h):LL SS cG [1,1,1,1,1,0,1,0,0] (fT a b k r q f e) h (KK SS cG [1,1,1,1,1,0,1,0] [] (EE SS cG Q)):=
 Gr (fT a b) g (λi k r q f e l h j=>ai (step i k r q f e l h j)) i j
theorem yz(a b:LB)(E:Nat->Nat->LB->OA->Nat->Nat->ae->Prop)(G k:Nat)(q:OA)(D C:Nat)(B:Nat->LB->Int->ae->Prop)(Q:VH)(step:∀(A:Nat) (r:LB) (d:Int) (H:Nat->Value) (h:ae),B A r d h->FW SS 154 [(strOf r),(strOf b)] h λy z=>yI .i64 y λx=>au (decide ((x:Int)>=0)) (FW SS 150 [(strOf r)] z λv w=>yL v λs t u=>FW SS 150 [(strOf b)] w λp r=>yL p λm n o=>FW SS 155 [(.slice s t u),(.slice m n o)] r λj l=>yL j λg h i=>FW SS 153 [(.slice g h i)] l λe f=>yS e λc=>aJ (qX (jK a b k q D C) B) A [(strOf a),(strOf b),(.slice q D C),(strOf c),(iA k),(.int .u8 (wrap .u8 (d+1)))] f) (xR (aG SS.P 172 1 [(0,(.int .u8 d))]) z λ_ g h i=>xE (bI SS.P 172 172 (.slice q D C) (sA (z.next) g h) i) i λc d e _ f=>aJ (Cg (fT a b) E) G [(strOf a),(strOf b),(.slice c d e),(strOf r),(.int .i64 (wrap .i64 ((k:Int)+1)))] f))(A:Nat){r:LB}{d:Int}{h:ae}(F:B A r d h):LL SS cG [1,1,1,1,1,0,1,0,0,1,0,0,1,1,0,0,0] (jK a b k q D C r d) h (KK SS cG [1,0,0,1,1,0,0] [1,1,1,1,1,0,1,0,0] (RR cG [1,1,1,1,1,0,1,0,0] (Cg (fT a b) E) G (KK SS cG [1,1,1,1,1,0,1,0] [] (EE SS cG Q)))):=
 nt (jK a b k q D C) B (λA r d H h F=>ai (step A r d H h F)) A F
theorem yC(a b:LB)(r:LB)(q:OA)(g j:Nat)(k:Nat->Nat->ae->Prop)(Q:VH)(step:∀(i:Nat) (z:Nat) (m:Nat->Value) (h:ae),k i z h->au (decide (((z:Int):Int)<wrap .i64 ((g:Int)-1))) (iP 172 (.slice q g j) (iA z) λf=>xI .u8 (aj SS.P 5 h (.pointer (some f))) λe=>au (((e:Int)==48)) (aJ (fm (l8 a b r q g j) k) i [(strOf a),(strOf b),(.slice q g j),(strOf r),(.int .i64 (wrap .i64 ((z:Int)+1)))] h) (xL (bG SS.P 172 (.slice q g j) (some (iA z)) none none h) λb c d=>xS (BI SS.P 172 9 (.slice b c d) h) λa=>Q (.tuple ⟨[(strOf a),(strOf r),(.int .i64 0)]⟩) h)) (xL (bG SS.P 172 (.slice q g j) (some (iA z)) none none h) λb c d=>xS (BI SS.P 172 9 (.slice b c d) h) λa=>Q (.tuple ⟨[(strOf a),(strOf r),(.int .i64 0)]⟩) h))(i:Nat){z:Nat}{h:ae}(l:k i z h):LL SS cG [1,1,1,1,1,1,1,0,0,0] (l8 a b r q g j z) h (KK SS cG [1,1,1,1,1,1,1,0,0] [] (EE SS cG Q)):=
 dg (l8 a b r q g j) k (λi z m h l=>ai (step i z m h l)) i l
noncomputable def pq:FD:=cI Tryz.f118 [([1,1,0,0,0],[0,1])]
abbrev l9  (x y:LB):LV:=[(strOf x),(strOf y)]
theorem Rb(a b:LB)(h:ae)(Q:VH)(i:FW SS 136 [(strOf a)] h λg h=>yB g λf=>au (!f) (Q (.tuple ⟨[(strOf []),(.int .i64 1)]⟩) h) (FW SS 136 [(strOf b)] h λd e=>yB d λc=>au (!c) (Q (.tuple ⟨[(strOf []),(.int .i64 1)]⟩) e) (LL SS pq [1,1,0,0,0] (l9 a b) e (KK SS pq [1,1,0,0] [] (EE SS pq Q))))):FW SS 118 [(strOf a),(strOf b)] h Q:=cN pq Tryz.func118 (ai i)
theorem yD(a b:LB)  (g:Nat->LB->LB->ae->Prop) (Q:VH) (step:∀(f:Nat)(x y:LB)(j:Nat->Value)(h:ae),g f x y h->au (!((y:LB)==[48])) (FW SS 137 [(strOf x),(strOf y)] h λd e=>∃c:LB,∃b:LB,∃a:Int,d=(.tuple ⟨[(strOf c),(strOf b),(.int .i64 a)]⟩)/\aJ (qX l9 g) f [(strOf y),(strOf b)] e) (Q (.tuple ⟨[(strOf x),(.int .i64 0)]⟩) h)) (f:Nat) {x y:LB} {h:ae} (i:g f x y h):LL SS pq [1,1,0,0,0] (l9  x y) h (KK SS pq [1,1,0,0] [] (EE SS pq Q)):=
 nt l9 g (λf x y j h i=>ai (step f x y j h i)) f i
variable{k:Nat}
theorem Vy(l:List UInt8){h:ae}{a b:Nat}(c:a<=b)(d:b<=l.length):bG SS.P 9 (strOf l) (some (.int .i64 (a:Int))) (some (.int .i64 (b:Int))) none h=some (strOf ((l.drop a).take (b-a))):=oD Zf l rfl rfl c d
theorem Us(h:k<s.length):(s.drop k).take (k+1-k)=[s.getD k 0]:=by
 rw[FT h,show k+1-k=1 by omega];rfl
theorem fV(h:n<10^1000):(ag n).length<=1000:=(dR (by omega)).2 h
theorem Mc(h:k<s.length):s[k]?=some (s.getD k 0):=by
 rw[gD,gE h];rfl
def three(a b:List UInt8)(e:Int):Value:= .tuple ⟨[strOf a,strOf b,.int .i64 e]⟩
theorem Am(m n:Nat)(L:m<10^1000)(B:n<10^1000)(U:0<n)(h:ae)(w:Wf h):FW SS 137 [strOf (ag m),strOf (ag n)] h (λv D=>v=three (ag (m/n)) (ag (m%n)) 0/\Ok h D):=by
 have u4:=fV L;have z8:=fV B;have z1:=cZ m;generalize ha:ag m=a at*;have y5:Num.val a=m:=by rw[<-ha,bu]
 have y7:¬ag n=[48]:=λe=>by have:=bM.1 e;omega
 have L3:=λ(g0:ae) (r:List UInt8) (q:Option Addr) (l x:Nat) (c:List UInt8) (M:ep h g0 5 (.slice q l x) (c.map s9)) (hq:c.all bS=true) (z7:0<c.length) (z9:c.length<=1000) (y4:Num.val c=m/n) (y:r=ag (m%n)) (N:Ok h g0)=>
  yC a (ag n) r q l x (λs z g=>z+1<=c.length/\s=c.length-z/\(∀i,i<z->c[i]?=some 48)/\g=g0) (λv D=>v=three (ag (m/n)) (ag (m%n)) 0/\Ok h D) (by
  intro s z;intros;rename_i g O;obtain⟨h1,h2,h3,rfl⟩:=O;have u2:l=c.length:=by have:=M.len;rwa[lM]at this
  have hw:wrap .i64 ((l:Int)-1)=(l:Int)-1:=aB (by omega) (by omega);have E:wrap .i64 ((z:Int)+1)=((z+1:Nat):Int):=by rw[aB (by omega) (by omega)];omega
  have x3:(z+1<c.length->c[z]?≠some 48)->∃(x4:Option Addr)(x5 x2:Nat),bG SS.P 172 (.slice q l x) (some (.int .i64 (z:Int))) none none g=some (.slice x4 x5 x2)/\∃Y:List UInt8,BI SS.P 172 9 (.slice x4 x5 x2) g=some (strOf Y)/\(three Y r 0=three (ag (m/n)) (ag (m%n)) 0/\Ok h g):=λhs=>by
   obtain⟨a',n',c',g1,A⟩:=M.from_ Bf zz5 (z:=z) (by rw[lM];omega);rw[<-List.map_drop]at A;refine⟨a',n',c',g1,_,OG A,?_,N⟩;rw[IX hq (by omega) h3 hs,y4,y]
  rw[hw,E];refine aa (λo=>?_) (λo=>?_)
  ·have o:=dT o;obtain⟨p,A,X⟩:=M.rd.at_ Bf zz5 un5 ag5 (k:= .i64) (i:=(z:Int)) (by omega) (by rw[lM];omega);have C:(c.map s9).getD ((z:Int)).toNat undef = .int .u8 ((c.getD z 0).toNat:Nat):=by
    rw[Int.toNat_natCast,gD,getElem?_map,Mc (by omega)];rfl
   rw[C]at X;refine⟨p,A,_,X,aa (λf=>?_) (λf=>?_)⟩
   ·have f:=GN.1 f;refine cd (s-1) (by omega) ⟨by omega,by omega,λi O=>?_,rfl⟩;rcases lt_or_ge i z with t|t
    ·exact h3 i t
    ·obtain rfl:i=z:=by omega
     rw[Mc (by omega),f]
   ·exact x3 λ_ e=>by
     rw[Mc (by omega)]at e;rw[GN.2 (oI e)]at f;cases f
  ·have o:=dF o;exact x3 λhh=>by omega)
 have L1:=yy a (ag n) (λs k r q l x g=>k<=a.length/\s=a.length-k/\r=ag (Num.val (a.take k)%n)/\(∃c:List UInt8,c.length=k/\c.all bS=true/\Num.val c=Num.val (a.take k)/n/\ep h g 5 (.slice q l x) (c.map s9))/\Ok h g) (λv D=>v=three (ag (m/n)) (ag (m%n)) 0/\Ok h D) (by
  intro s k r q l x;intros;rename_i g O;obtain⟨h1,h2,y,⟨c,y2,x9,G,M⟩,N⟩:=O;refine aa (λo=>?_) (λo=>?_)
  ·have o:=dT o;have F:k<a.length:=by omega
   have S:=CI z1 F;have y6:=re S;have y0:=mod_lt (Num.val (a.take k)) U;have E:wrap .i64 ((k:Int)+1)=((k+1:Nat):Int):=by rw[aB (by omega) (by omega)];omega
   have x7:Num.val (a.take (k+1))=10*Num.val (a.take k)+jt (a.getD k 0):=sW (Mc F);have K:=G5 (r:=Num.val (a.take k)%n) S;have L2:=yz a (ag n) (λs k r q l x g=>k<=a.length/\s=a.length-k/\r=ag (Num.val (a.take k)%n)/\(∃c:List UInt8,c.length=k/\c.all bS=true/\Num.val c=Num.val (a.take k)/n/\ep h g 5 (.slice q l x) (c.map s9))/\Ok h g) s k q l x
    (λx0 r d A=>∃j:Nat,d=48+(j:Int)/\j*n<=10*(Num.val (a.take k)%n)+jt (a.getD k 0)/\r=ag (10*(Num.val (a.take k)%n)+jt (a.getD k 0)-j*n)/\x0=10*(Num.val (a.take k)%n)+jt (a.getD k 0)-j*n/\Ok g A) (λv D=>v=three (ag (m/n)) (ag (m%n)) 0/\Ok h D) (by
    intro x0 r2 d;intros;rename_i A z4;obtain⟨j,rfl,x6,rfl,u3,J⟩:=z4;have P:=II U y6 x6;generalize hR:10*(Num.val (a.take k)%n)+jt (a.getD k 0)=R at*;have z6:(ag (R-j*n)).length<=1001:=by
     have z5:=oP n;refine Nat.le_trans ((dR (k:=(ag n).length+1) (by omega)).2 ?_) (by omega);rw[Nat.pow_succ];generalize 10^(ag n).length=T at z5;clear B L;omega
    have y9:=N.trans J;refine(qu (R-j*n) n (by omega) (by omega) A y9.wf).mono ?_;rintro _ X ⟨rfl,H⟩;refine⟨_,rfl,aa (λf=>?_) (λf=>?_)⟩
    ·have f:=Fp.1 (dT f);refine(sj _ (cZ _) (by omega) X H.wf).mono ?_;rintro _ g4 ⟨a1,n1,c1,rfl,o1,x8⟩;refine⟨a1,n1,c1,rfl,(sj _ (cZ _) (by omega) g4 x8.wf).mono ?_⟩;rintro _ g5 ⟨a2,n2,c2,rfl,o2,Q⟩;refine⟨a2,n2,c2,rfl,(DT (o1.rd.ok Q) o2.rd (mr (cZ _)) (mr (cZ _)) (by rw[kY];omega) Q.wf).mono ?_⟩;rintro _ g6 ⟨a3,n3,c3,rfl,o3,x1⟩;refine⟨a3,n3,c3,rfl,(sk o3.rd (Fs (mr (cZ _)) (mr (cZ _)) _ _ _ (by omega)) (by rw[eX,kY];omega) x1.wf).mono ?_⟩;rintro _ g7 ⟨rfl,z0⟩;have z2:(ag n).length<=(ag (R-j*n)).length:=by
      rcases lt_or_ge (ag (R-j*n)).length (ag n).length with t|t
      ·have:=lQ t;omega
      ·exact t
     have Z:=Fq (mr (cZ (R-j*n))) (mr (cZ n)) (by rw[kY,kY];exact z2) (by rw[gf,gf,bu,bu];exact f);rw[gf,gf,bu,bu]at Z;rw[Z];refine⟨_,rfl,?_⟩;have y3:wrap .u8 (48+(j:Int)+1)=48+((j+1:Nat):Int):=by rw[sL (by omega) (by omega)];omega
     rw[y3];have C:(j+1)*n=j*n+n:=Nat.succ_mul j n;exact iO (R-j*n-n) (by clear B L;omega) ⟨j+1,rfl,by rw[C];clear B L;omega,by rw[C,Nat.sub_sub],by rw[C,Nat.sub_sub],((((J.trans H).trans x8).trans Q).trans x1).trans z0⟩
    ·have f:¬(n<=R-j*n):=λe=>by have:=dF f;exact this (Fp.2 e)
     have W:=IJ (V:=Num.val (a.take k)) (d:=jt (a.getD k 0)) U (k:=j) (by rw[hR];exact x6) (by rw[hR,Nat.succ_mul];clear B L;omega);rw[hR]at W;refine⟨_,_,_,ZZ _,?_⟩;have y8:=N.trans (J.trans H);obtain⟨b,mm,dd,u,g6,g7,g8,g9⟩:=OF w y8 (M.ok (J.trans H)) (48+(j:Int)) (by rw[lM];omega);refine⟨b,mm,dd,u,g6,?_⟩;rw[E];refine oZ (s-1) (by omega) ⟨by omega,by omega,?_,⟨c++[eW j],by simp[y2],?_,?_,?_⟩,g9⟩
     ·rw[x7,W.2]
     ·rw[List.all_append,x9];simp[tk P]
     ·rw[ir,G,Cr P,x7,W.1]
     ·rw[map_append];have C:s9 (eW j) = .int .u8 (48+(j:Int)):=by
       unfold s9;rw[jw P];rfl
      show ep h _ 5 _ (_++[s9 (eW j)]);rw[C];exact g8)
   have I:∀r',r'=ag (10*(Num.val (a.take k)%n)+jt (a.getD k 0))->∃j:Nat,(48:Int)=48+(j:Int)/\j*n<=10*(Num.val (a.take k)%n)+jt (a.getD k 0)/\r'=ag (10*(Num.val (a.take k)%n)+jt (a.getD k 0)-j*n)/\10*(Num.val (a.take k)%n)+jt (a.getD k 0)=10*(Num.val (a.take k)%n)+jt (a.getD k 0)-j*n/\Ok g g:=
    λr' e=>⟨0,rfl,by rw[Nat.zero_mul];exact Nat.zero_le _,by rw[Nat.zero_mul,sub_zero];exact e,by rw[Nat.zero_mul,sub_zero],Ok.refl N.wf⟩
   rw[E];refine aa (λf=>?_) (λf=>?_)
   ·have f:r=[48]:=by simpa using f
    refine⟨_,Vy a (by omega) (by omega),?_⟩;rw[Us F];refine L2 _ (I _ ?_);rw[<-K,if_pos (by rw[<-y];exact f)]
   ·have f:¬r=[48]:=by simpa using f
    refine⟨_,Vy a (by omega) (by omega),?_⟩;rw[Us F];have u1:r.length<=1000:=by
     rw[y];exact fV (Nat.lt_trans y0 B)
    refine⟨_,rD r [a.getD k 0] (by simp;omega),?_⟩;refine L2 _ (I _ ?_);rw[<-K,if_neg (by rw[<-y];exact f),y]
  ·have o:=dF o;obtain rfl:k=a.length:=by omega
   rw[List.take_length]at G y;rw[y5]at G y;have u0:0<a.length:=by rw[<-ha];exact nE m
   exact L3 g r q l x c M x9 (by omega) (by omega) G y N c.length (z:=0) ⟨by omega,by omega,λi O=>by omega,rfl⟩)
 refine Ra a (ag n) h _ ?_;refine(dv a h).mono ?_;rintro _ _ ⟨rfl,rfl⟩;have z3:Num.valid a=true:=by rw[<-ha];exact ej.2 L
 have y1:Num.valid (ag n)=true:=ej.2 B;refine⟨_,rfl,aa (λf=>?_) (λf=>?_)⟩
 ·rw[z3]at f;cases f
 ·refine(dv (ag n) _).mono ?_;rintro _ _ ⟨rfl,rfl⟩;refine⟨_,rfl,aa (λt=>?_) (λt=>aa (λh8=>?_) (λh8=>?_))⟩
  ·rw[y1]at t;cases t
  ·exact absurd (by simpa using h8) y7
  ·exact L1 a.length (k:=0) ⟨by omega,by omega,by rw[take_zero];simp[jV,oa],⟨[],rfl,rfl,by rw[take_zero];simp[jV],.inl ⟨rfl,rfl⟩⟩,Ok.refl w⟩
def two(a:List UInt8)(e:Int):Value:= .tuple ⟨[strOf a,.int .i64 e]⟩
def Bx(a b:List UInt8):Value:=if Num.valid a=true/\Num.valid b=true then two (ag (Nat.gcd (Num.val a) (Num.val b))) 0 else two [] 1
theorem Gm(a b:List UInt8)(h:ae)(w:Wf h):FW SS 118 [strOf a,strOf b] h (λv s=>v=Bx a b/\Ok h s):=by
 refine Rb a b h _ ?_;refine(dv a h).mono ?_;rintro _ _ ⟨rfl,rfl⟩;refine⟨_,rfl,aa (λi=>?_) (λi=>?_)⟩
 ·refine⟨?_,Ok.refl w⟩;unfold Bx;rw[if_neg (λe=>by rw[e.1]at i;cases i)];rfl
 ·refine(dv b _).mono ?_;rintro _ _ ⟨rfl,rfl⟩;refine⟨_,rfl,aa (λf=>?_) (λf=>?_)⟩
  ·refine⟨?_,Ok.refl w⟩;unfold Bx;rw[if_neg (λe=>by rw[e.2]at f;cases f)];rfl
  ·have o:Num.valid a=true:=by simpa using i
   have k:Num.valid b=true:=by simpa using f
   obtain⟨m,rfl,C,_⟩:=cD o;obtain⟨n,rfl,B,_⟩:=cD k;rename_i u _ _;have L:=yD (ag m) (ag n) (λc x y g=>∃p q:Nat,x=ag p/\y=ag q/\p<10^1000/\q<10^1000/\Nat.gcd p q=Nat.gcd m n/\c=q/\Ok u g) (λv s=>v=Bx (ag m) (ag n)/\Ok u s) (by
    intro c x y;intros;rename_i g D;obtain⟨p,q,rfl,rfl,F,r,A,rfl,t⟩:=D;refine aa (λd=>?_) (λd=>?_)
    ·have d:¬ag c=[48]:=by simpa using d
     have l:0<c:=Nat.pos_of_ne_zero λe=>d (bM.2 e);refine(Am p c F r l g t.wf).mono ?_;rintro _ G ⟨rfl,z⟩;refine⟨_,_,_,rfl,?_⟩;have j:=mod_lt p l;exact iO (p%c) j ⟨c,p%c,rfl,rfl,r,Nat.lt_trans j r,by rw[<-Lo];exact A,rfl,t.trans z⟩
    ·have d:ag c=[48]:=by simpa using d
     have E:=bM.1 d;subst E;refine⟨?_,t⟩;unfold Bx;rw[if_pos ⟨o,k⟩,bu,bu,<-A,Nat.gcd_zero_right];rfl)
   exact L n ⟨m,n,rfl,rfl,C,B,rfl,rfl,Ok.refl w⟩
noncomputable def mI:FD:=cI Tryz.f174 [([1,0,0,0],[0])]
abbrev nI  (r:OA) (m d:Nat):LV:=[(.slice r m d)]
theorem Dw(a:OA)(n c:Nat)(h:ae)(Q:VH)(b:LL SS mI [1,0,0,0] [(.slice a n c)] h (KK SS mI [1,0,0] [] (EE SS mI Q))):FW SS 174 [(.slice a n c)] h Q:=cN mI Tryz.func174 (ai b)
theorem ph(a:OA)(n c:Nat)  (i:Nat->OA->Nat->Nat->ae->Prop) (Q:VH) (step:∀(g:Nat)(r:OA)(m d:Nat)(k:Nat->Value)(h:ae),i g r m d h->au (decide (((m:Int):Int)>0)) (iP 177 (.slice r m d) (.int .i64 (wrap .i64 ((m:Int)-1))) λf=>xI .u64 (aj SS.P 150 h (.pointer (some f))) λe=>au (((e:Int)==0)) (xL (bG SS.P 177 (.slice r m d) none (some (.int .i64 (wrap .i64 ((m:Int)-1)))) none h) λa b c=>aJ (LA3 nI i) g [(.slice a b c)] h) (Q (.slice r m d) h)) (Q (.slice r m d) h)) (g:Nat) {r:OA} {m d:Nat} {h:ae} (j:i g r m d h):LL SS mI [1,0,0,0] (nI  r m d) h (KK SS mI [1,0,0] [] (EE SS mI Q)):=
 Vk nI i (λg r m d k h j=>ai (step g r m d k h j)) g j
noncomputable def da:FD:=cI Tryz.f172 [([1,1,0,0,0],[0,3]),([1,1,0,0,0,1,0,1,1,0,1,0,0],[0,3,4,5,6])]
abbrev gx  (s:LB) (r:OA) (a b:Nat):LV:=[(strOf s),(.slice r a b)]
abbrev je(s:LB)(r:OA)(b c:Nat)(a:Int)(i v:Int):LV:=[(strOf s),(.slice r b c),(.int .i64 a),(.int .u64 v),(.int .i64 i)]
theorem HF(l:LB)(h:ae)(Q:VH)(a:LL SS da [1,1,0,0,0] [(strOf l),nA] h (KK SS da [1,1,0,0] [] (EE SS da Q))):FW SS 172 [(strOf l)] h Q:=cN da Tryz.func172 (ai a)
theorem tO(l:LB)  (j:Nat->LB->OA->Nat->Nat->ae->Prop) (Q:VH) (step:∀(i:Nat)(s:LB)(r:OA)(f g:Nat)(m:Nat->Value)(h:ae),j i s r f g h->au (decide ((((s:LB).length:Int):Int)>0)) (xI .i64 (r4 true [(.int .i64 0),(.int .i64 (wrap .i64 (((s:LB).length:Int)-9)))]) λa=>LL SS da [1,1,0,0,0,1,0,1,1,0,1,0,0] (je s r f g a a 0) h (KK SS da [1,0,1,1,0,1,0] [1,1,0,0,0] (RR da [1,1,0,0,0] (ZN gx j) i (KK SS da [1,1,0,0] [] (EE SS da Q))))) (FW SS 174 [(.slice r f g)] h λd e=>yL d λa b c=>Q (.slice a b c) e)) (i:Nat) {s:LB} {r:OA} {f g:Nat} {h:ae} (k:j i s r f g h):LL SS da [1,1,0,0,0] (gx  s r f g) h (KK SS da [1,1,0,0] [] (EE SS da Q)):=
 Vl gx j (λi s r f g m h k=>ai (step i s r f g m h k)) i k
theorem tP(l:LB)(p:Nat->LB->OA->Nat->Nat->ae->Prop)(t:Nat)(s:LB)(r:OA)(n o:Nat)(m:Int)(k:Nat->Int->Int->ae->Prop)(Q:VH)(step:∀(j:Nat) (i v:Int) (u:Nat->Value) (h:ae),k j i v h->au (decide ((i:Int)<((s:LB).length:Int))) (xI .u8 (bR SS.P 9 (strOf s) (.int .i64 i)) λa=>aJ (qX (je s r n o m) k) j [(strOf s),(.slice r n o),(.int .i64 m),(.int .u64 (wrap .u64 (wrap .u64 (10*v)+wrap .u64 (wrap .u8 (a-48))))),(.int .i64 (wrap .i64 (i+1)))] h) (xR (aG SS.P 177 1 [(0,(.int .u64 v))]) h λ_ f g i=>xE (bI SS.P 177 177 (.slice r n o) (sA (h.next) f g) i) i λb c d _ e=>xS (bG SS.P 9 (strOf s) none (some (.int .i64 m)) none e) λa=>aJ (ZN gx p) t [(strOf a),(.slice b c d)] e))(j:Nat){i v:Int}{h:ae}(q:k j i v h):LL SS da [1,1,0,0,0,1,0,1,1,0,1,0,0] (je s r n o m i v) h (KK SS da [1,0,1,1,0,1,0] [1,1,0,0,0] (RR da [1,1,0,0,0] (ZN gx p) t (KK SS da [1,1,0,0] [] (EE SS da Q)))):=
 nt (je s r n o m) k (λj i v u h q=>ai (step j i v u h q)) j q
noncomputable def abb:FD:=cI Tryz.f206 []
theorem Yv(x:Int)(h:ae)(Q:VH)(a:Q (.bool (((x:Int) !=x))) h):FW SS 206 [(.int .u64 x)] h Q:=cN abb Tryz.func206 (ai a)
noncomputable def aaT:FD:=cI Tryz.f196 []
theorem XM(x y:Int)(h:ae)(Q:VH)(g:FW SS 206 [(.int .u64 x)] h λe f=>yB e λd=>FW SS 206 [(.int .u64 y)] f λb c=>yB b λa=>au d (au a (Q (.int .i64 0) c) (Q (.int .i64 (-1)) c)) (au a (Q (.int .i64 1) c) (au (decide ((x:Int)<y)) (Q (.int .i64 (-1)) c) (au (decide ((x:Int)>y)) (Q (.int .i64 1) c) (Q (.int .i64 0) c))))):FW SS 196 [(.int .u64 x),(.int .u64 y)] h Q:=cN aaT Tryz.func196 (ai g)
noncomputable def aba:FD:=cI Tryz.f165 []
theorem Yu(x:Int)(h:ae)(Q:VH)(a:Q (.bool (((x:Int) !=x))) h):FW SS 165 [(.int .i64 x)] h Q:=cN aba Tryz.func165 (ai a)
noncomputable def aaS:FD:=cI Tryz.f195 []
theorem XJ(x y:Int)(h:ae)(Q:VH)(g:FW SS 165 [(.int .i64 x)] h λe f=>yB e λd=>FW SS 165 [(.int .i64 y)] f λb c=>yB b λa=>au d (au a (Q (.int .i64 0) c) (Q (.int .i64 (-1)) c)) (au a (Q (.int .i64 1) c) (au (decide ((x:Int)<y)) (Q (.int .i64 (-1)) c) (au (decide ((x:Int)>y)) (Q (.int .i64 1) c) (Q (.int .i64 0) c))))):FW SS 195 [(.int .i64 x),(.int .i64 y)] h Q:=cN aaS Tryz.func195 (ai g)
noncomputable def iE:FD:=cI Tryz.f186 [([1,1,0,1,0,0],[0,1,18,19])]
abbrev iF(a:OA)(n c:Nat)(b:OA)(m d:Nat)(i:Nat):LV:=[(.slice a n c),(.slice b m d),(iA n),(iA i)]
theorem E7(a:OA)(n c:Nat)(b:OA)(m d:Nat)(h:ae)(Q:VH)(e:au ((((n:Int):Int) !=(m:Int))) (FW SS 195 [(iA n),(iA m)] h λb c=>yI .i64 b λa=>Q (.int .i64 a) c) (LL SS iE [1,1,0,1,0,0] (iF a n c b m d 0) h (KK SS iE [1,1,0,1,0] [] (EE SS iE Q)))):FW SS 186 [(.slice a n c),(.slice b m d)] h Q:=cN iE Tryz.func186 (ai e)
theorem tc(a:OA)(n c:Nat)(b:OA)(m d:Nat)  (q:Nat->Nat->ae->Prop) (Q:VH) (step:∀(p:Nat)(i:Nat)(s:Nat->Value)(h:ae),q p i h->au (decide (((i:Int):Int)<(n:Int))) (xP (aA SS.P 177 (.slice a n c) (.int .i64 (wrap .i64 (wrap .i64 ((n:Int)-1)-(i:Int))))) λo=>xI .u64 (aj SS.P 150 (room h 18) (.pointer (some o))) λl=>xP (aA SS.P 177 (.slice b m d) (.int .i64 (wrap .i64 (wrap .i64 ((n:Int)-1)-(i:Int))))) λk=>xI .u64 (aj SS.P 150 (room h 18) (.pointer (some k))) λj=>FW SS 196 [(.int .u64 l),(.int .u64 j)] (room h 18) λf g=>yI .i64 f λe=>au (((e:Int) !=0)) (Q (.int .i64 e) g) (aJ (fm (iF a n c b m d) q) p [(.slice a n c),(.slice b m d),(iA n),(.int .i64 (wrap .i64 ((i:Int)+1)))] g)) (Q (.int .i64 0) h)) (p:Nat) {i:Nat} {h:ae} (r:q p i h):LL SS iE [1,1,0,1,0,0] (iF a n c b m d i) h (KK SS iE [1,1,0,1,0] [] (EE SS iE Q)):=
 dg (iF a n c b m d) q (λp i s h r=>ai (step p i s h r)) p r
noncomputable def Ro:FD:=cI Tryz.f213 []
theorem M9(x y z:Int)(p:OA)(h:ae)(Q:VH)(d:xI .u64 (aj SS.P 150 h (.pointer p)) λc=>xI .u64 (ax SS.P .rem 150 (.int .u64 (wrap .u64 (wrap .u64 (x*c)+z))) (.int .u64 1000000000)) λb=>xI .u64 (ax SS.P .quo 150 (.int .u64 (wrap .u64 (wrap .u64 (x*c)+z))) (.int .u64 1000000000)) λa=>Q (.tuple ⟨[(.int .u64 b),(.int .u64 a)]⟩) h):FW SS 213 [(.int .u64 x),(.int .u64 y),(.int .u64 z),(.pointer p)] h Q:=cN Ro Tryz.func213 (ai d)
noncomputable def iB:FD:=cI Tryz.f193 [([1,1,1,0,1,0,0],[0,1,2,7,8,18,19])]
abbrev eP(a:OA)(n c:Nat)(p:OA)(b:Int)(i:Nat)(cy:Int)(r:OA)(d e:Nat):LV:=[(.slice a n c),nA,(.func (.func 213) ⟨[]⟩ ⟨[(.pointer p)]⟩),(.slice r d e),(.int .u64 cy),(.int .i64 b),(iA i)]
theorem EX(a:OA)(n c:Nat)(p:OA)(h:ae)(Q:VH)(d:xI .i64 (r4 true [(iA n),(.int .i64 0)]) λb=>LL SS iB [1,1,1,0,1,0,0] [(.slice a n c),nA,(.func (.func 213) ⟨[]⟩ ⟨[(.pointer p)]⟩),nA,(.int .u64 0),(.int .i64 (wrap .i64 (b+1))),(.int .i64 0)] h (KK SS iB [1,1,1,0,1,0] [] (EE SS iB Q))):FW SS 193 [(.slice a n c),nA,(.func (.func 213) ⟨[]⟩ ⟨[(.pointer p)]⟩)] h Q:=cN iB Tryz.func193 (ai d)
theorem ta(a:OA)(n c:Nat)(p:OA)(v:Int)(w:Nat->Nat->Int->OA->Nat->Nat->ae->Prop)(Q:VH)(step:∀(z:Nat) (i:Nat) (cy:Int) (r:OA) (x y:Nat) (B:Nat->Value) (h:ae),w z i cy r x y h->au (decide (((i:Int):Int)<v)) (au (decide (((i:Int):Int)<(n:Int))) (iP 177 (.slice a n c) (iA i) λu=>xI .u64 (aj SS.P 150 h (.pointer (some u))) λt=>au (decide (((i:Int):Int)<0)) (iP 177 nA (iA i) λs=>xI .u64 (aj SS.P 150 h (.pointer (some s))) λq=>FW SS 213 [(.int .u64 t),(.int .u64 q),(.int .u64 cy),(.pointer p)] h λm o=>∃l:Int,∃k:Int,m=(.tuple ⟨[(.int .u64 l),(.int .u64 k)]⟩)/\xR (aG SS.P 177 1 [(0,(.int .u64 l))]) o λ_ g h j=>xE (bI SS.P 177 177 (.slice r x y) (sA (o.next) g h) j) j λb d e _ f=>aJ (Cg (eP a n c p v) w) z [(.slice a n c),nA,(.func (.func 213) ⟨[]⟩ ⟨[(.pointer p)]⟩),(.slice b d e),(.int .u64 k),(.int .i64 v),(.int .i64 (wrap .i64 ((i:Int)+1)))] f) (FW SS 213 [(.int .u64 t),(.int .u64 0),(.int .u64 cy),(.pointer p)] h λm o=>∃l:Int,∃k:Int,m=(.tuple ⟨[(.int .u64 l),(.int .u64 k)]⟩)/\xR (aG SS.P 177 1 [(0,(.int .u64 l))]) o λ_ g h j=>xE (bI SS.P 177 177 (.slice r x y) (sA (o.next) g h) j) j λb d e _ f=>aJ (Cg (eP a n c p v) w) z [(.slice a n c),nA,(.func (.func 213) ⟨[]⟩ ⟨[(.pointer p)]⟩),(.slice b d e),(.int .u64 k),(.int .i64 v),(.int .i64 (wrap .i64 ((i:Int)+1)))] f)) (au (decide (((i:Int):Int)<0)) (iP 177 nA (iA i) λs=>xI .u64 (aj SS.P 150 h (.pointer (some s))) λq=>FW SS 213 [(.int .u64 0),(.int .u64 q),(.int .u64 cy),(.pointer p)] h λm o=>∃l:Int,∃k:Int,m=(.tuple ⟨[(.int .u64 l),(.int .u64 k)]⟩)/\xR (aG SS.P 177 1 [(0,(.int .u64 l))]) o λ_ g h j=>xE (bI SS.P 177 177 (.slice r x y) (sA (o.next) g h) j) j λb d e _ f=>aJ (Cg (eP a n c p v) w) z [(.slice a n c),nA,(.func (.func 213) ⟨[]⟩ ⟨[(.pointer p)]⟩),(.slice b d e),(.int .u64 k),(.int .i64 v),(.int .i64 (wrap .i64 ((i:Int)+1)))] f) (FW SS 213 [(.int .u64 0),(.int .u64 0),(.int .u64 cy),(.pointer p)] h λm o=>∃l:Int,∃k:Int,m=(.tuple ⟨[(.int .u64 l),(.int .u64 k)]⟩)/\xR (aG SS.P 177 1 [(0,(.int .u64 l))]) o λ_ g h j=>xE (bI SS.P 177 177 (.slice r x y) (sA (o.next) g h) j) j λb d e _ f=>aJ (Cg (eP a n c p v) w) z [(.slice a n c),nA,(.func (.func 213) ⟨[]⟩ ⟨[(.pointer p)]⟩),(.slice b d e),(.int .u64 k),(.int .i64 v),(.int .i64 (wrap .i64 ((i:Int)+1)))] f))) (FW SS 174 [(.slice r x y)] h λd e=>yL d λa b c=>Q (.slice a b c) e))(z:Nat){i:Nat}{cy:Int}{r:OA}{x y:Nat}{h:ae}(A:w z i cy r x y h):LL SS iB [1,1,1,0,1,0,0] (eP a n c p v i cy r x y) h (KK SS iB [1,1,1,0,1,0] [] (EE SS iB Q)):=
 Gr (eP a n c p v) w (λz i cy r x y B h A=>ai (step z i cy r x y B h A)) z A
noncomputable def J5:FD:=cI Tryz.f202 []
theorem HI(a:OA)(n c:Nat)(k:Int)(h:ae)(Q:VH)(g:xN (ew SS.P 150 (.int .u64 k)) h λ_ f=>FW SS 193 [(.slice a n c),nA,(.func (.func 213) ⟨[]⟩ ⟨[(pA (h.next))]⟩)] f λd e=>yL d λa b c=>Q (.slice a b c) e):FW SS 202 [(.slice a n c),(.int .u64 k)] h Q:=cN J5 Tryz.func202 (ai g)
def uv(d:Nat):Value:= .int .u64 (d:Int)
theorem Bg:SS.P.underlying 177=some (.slice 150):=by kernel_rfl
theorem OL:SS.P.underlying 150=some (.int .u64):=by kernel_rfl
theorem EB:aF SS.P 150=some 1:=by kernel_rfl
theorem NP:Go.Ab.isAgg SS.P 150=false:=by kernel_rfl
noncomputable def U4:TypeInfo:=(eU SS.P 150).getD default
theorem Kq:eU SS.P 150=some U4:=by kernel_rfl
theorem DP:U4.size=1:=by kernel_rfl
theorem A8:U4.bytes=8:=by kernel_rfl
theorem sX(z:Int):aG SS.P 177 1 [(0,.int .u64 z)]=some (.cells [.int .u64 z] 150 1 true,mN 1 1):=by kernel_rfl
theorem mg(d:Wf g)(e:Ok g h){v:Value}{a:List Value}(o:ep g h 150 v a)(z:Int)(f:a.length<=100000):
  ∃(b:Option Addr)(n c:Nat)(u:dS),bI SS.P 177 177 v (.slice (some ⟨h.next,0,none⟩) 1 1) (h.push (.cells [.int .u64 z] 150 1 true))=some (.slice b n c,u)/\n=a.length+1/\ep g (u.app (h.push (.cells [.int .u64 z] 150 1 true))) 150 (.slice b n c) (a++[.int .u64 z])/\Ok g (u.app (h.push (.cells [.int .u64 z] 150 1 true))):=
 ep.snoc Bg Kq DP d e o rfl (by rw[A8];omega) (by omega)
theorem Ug(l:List Nat)(i:Nat)(h:i<l.length):(l.map uv).getD i undef = .int .u64 (l.getD i 0:Nat):=by
 simp[gD,getElem?_map,gE h,uv]
theorem FG(r:Rd h 150 v (x.map uv)){i:Int}(d:0<=i)(b:i<x.length):
  ∃p:Addr,aA SS.P 177 v (.int .i64 i)=some (.pointer (some p))/\aj SS.P 150 h (.pointer (some p))=some (.int .u64 (x.getD i.toNat 0:Nat)):=by
 obtain⟨p,c,a⟩:=r.at_ Bg EB OL NP (k:= .i64) d (by rw[lM];exact b);rw[Ug x _ (by omega)]at a;exact⟨p,c,a⟩
theorem r6{c:Nat}(o:ep g h 150 (.slice a n c) (x.map uv))(D:x.length<=100000):
  FW SS 174 [.slice a n c] h (λv u=>∃k f e,v = .slice k f e/\ep g h 150 (.slice k f e) ((dV x).map uv)/\u=h):=by
 have A:n=x.length:=by have:=o.len;rwa[lM]at this
 have L:=ph a n c (λb r m d J=>m<=x.length/\b=m/\ep g h 150 (.slice r m d) ((x.take m).map uv)/\dV x=dV (x.take m)/\J=h) (λv u=>∃k f e,v = .slice k f e/\ep g h 150 (.slice k f e) ((dV x).map uv)/\u=h) (by
  intro b r m d;intros;rename_i J I;obtain⟨K,rfl,t,w,rfl⟩:=I;have H:wrap .i64 ((b:Int)-1)=(b:Int)-1:=aB (by omega) (by omega);rw[H];have s:b≠0->x.take b=x.take (b-1)++[x.getD (b-1) 0]:=λs=>by
   obtain⟨j,rfl⟩:∃j,b=j+1:=⟨b-1,by omega⟩
   rw[List.take_succ_eq_append_getElem (by omega),Nat.add_sub_cancel,gD,gE (by omega)];rfl
  refine aa (λq=>?_) (λq=>?_)
  ·have q:=dT q;obtain⟨p,F,C⟩:=FG t.rd (i:=(b:Int)-1) (by omega) (by rw[length_take];omega);have E:(x.take b).getD ((b:Int)-1).toNat 0=x.getD (b-1) 0:=by
    rw[show((b:Int)-1).toNat=b-1 by omega,gD,List.getElem?_take,if_pos (by omega),gD]
   rw[E]at C;refine⟨p,F,_,C,aa (λl=>?_) (λl=>?_)⟩
   ·have l:((x.getD (b-1) 0:Nat):Int)=0:=by simpa using l
    have l:x.getD (b-1) 0=0:=by omega
    obtain⟨k,f,e,G,y⟩:=t.upto Bg EB (z:=b-1) (by rw[lM,length_take];omega) (by rw[lM,length_take];omega);rw[show((b:Int)-1)=((b-1:Nat):Int) by omega];have B:f=b-1:=by have:=y.len;rw[length_take,lM,length_take]at this;omega
    subst B;refine⟨k,_,e,G,JM (b-1) (by omega) ⟨by omega,rfl,?_,?_,rfl⟩⟩
    ·rw[<-List.map_take,List.take_take,Nat.min_eq_left (by omega)]at y;exact y
    ·rw[w,s (by omega),l,jd]
   ·have l:¬((x.getD (b-1) 0:Nat):Int)=0:=by simpa using l
    refine⟨r,b,d,rfl,?_,rfl⟩;rw[w,s (by omega),jT _ (by omega),<-s (by omega)];exact t
  ·have q:=dF q;obtain rfl:b=0:=by omega
   refine⟨r,0,d,rfl,?_,rfl⟩;rw[w];exact t)
 exact Dw a n c h _ (L n ⟨by omega,rfl,by rw[show x.take n=x by rw[A,List.take_length]];exact o,by rw[show x.take n=x by rw[A,List.take_length]],rfl⟩)
theorem Fj{l:List UInt8}(h:i<l.length):Num.val (l.take (i+1))=10*Num.val (l.take i)+jt (l.getD i 0):=sW (Mc h)
theorem Ru(l:List UInt8){h:ae}{b:Nat}(c:b<=l.length):bG SS.P 9 (strOf l) none (some (.int .i64 (b:Int))) none h=some (strOf (l.take b)):=oD (a:=0) Zf l rfl rfl (by omega) c
theorem Ji(b:n=s.length-9)(a:0<s.length):Num.val s=Num.val (s.drop n)+10^(s.length-n)*Num.val (s.take n):=by
 have:=jU (s.take n) (s.drop n);rw[List.take_append_drop,length_drop,Nat.mul_comm]at this;omega
theorem r5(l:List UInt8)(hd:l.all bS=true)(k:l.length<=10000)(h:ae)(w:Wf h):FW SS 172 [strOf l] h (ja h 150 ((aW 1000000000 (Num.val l)).map uv)):=by
 have Y:=tO l (λA s r o t g=>A=s.length/\s.all bS=true/\s.length<=10000/\Ok h g/\∃a:List Nat,(∀d∈a,d<1000000000)/\a.length+s.length<=10000/\ep h g 150 (.slice r o t) (a.map uv)/\Num.val l=Num.bv 1000000000 a+1000000000^a.length*Num.val s) (ja h 150 ((aW 1000000000 (Num.val l)).map uv)) (by
  intro A s r o t;intros;rename_i g X;obtain⟨rfl,p,x2,Q,a,C,x0,O,I⟩:=X;refine aa (λz=>?_) (λz=>?_)
  ·have z:=dT z;have U:wrap .i64 ((s.length:Int)-9)=(s.length:Int)-9:=aB (by omega) (by omega);rw[U];have E:(if(s.length:Int)-9>0 then(s.length:Int)-9 else 0)=((s.length-9:Nat):Int):=by split<;>omega
   refine⟨_,tL _ _ _,?_⟩;rw[E];have T:=tP l (λA s r o t g=>A=s.length/\s.all bS=true/\s.length<=10000/\Ok h g/\∃a:List Nat,(∀d∈a,d<1000000000)/\a.length+s.length<=10000/\ep h g 150 (.slice r o t) (a.map uv)/\Num.val l=Num.bv 1000000000 a+1000000000^a.length*Num.val s) s.length s r o t ((s.length-9:Nat):Int)
    (λq i v B=>∃j:Nat,i=(s.length-9:Nat)+(j:Int)/\s.length-9+j<=s.length/\q=s.length-(s.length-9+j)/\v=(Num.val ((s.drop (s.length-9)).take j):Nat)/\B=g) (ja h 150 ((aW 1000000000 (Num.val l)).map uv)) (by
    intro q i v;intros;rename_i B P;obtain⟨j,rfl,hj,x3,rfl,rfl⟩:=P;have D:(s.drop (s.length-9)).all bS=true:=by
     rw[all_eq_true]at p⊢;exact λx c=>p x (List.mem_of_mem_drop c)
    have F:=CD (l:=(s.drop (s.length-9)).take j) (by
     rw[all_eq_true]at D⊢;exact λx c=>D x (List.mem_of_mem_take c))
    have f:Num.val ((s.drop (s.length-9)).take j)<1000000000:=by
     refine Nat.lt_of_lt_of_le F (Nat.le_trans (Nat.pow_le_pow_right (by omega) (show _<=9 by rw[length_take,length_drop];omega)) (by decide))
    refine aa (λe=>?_) (λe=>?_)
    ·have e:=dT e;have H:s.length-9+j<s.length:=by omega
     have y:=CI p H;have x4:=lk.1 y;have x1:=re y;refine⟨_,By (h:=B) s (by omega) e,?_⟩;have G:(((s.length-9:Nat):Int)+(j:Int)).toNat=s.length-9+j:=by omega
     rw[G];have R:wrap .u8 ((((s.getD (s.length-9+j) 0).toNat:Nat):Int)-48)=(jt (s.getD (s.length-9+j) 0):Nat):=by
      rw[sL (by omega) (by omega)];unfold jt;omega
     have e2:(s.drop (s.length-9)).getD j 0=s.getD (s.length-9+j) 0:=by
      rw[gD,List.getElem?_drop,gD]
     have N:=Fj (l:=s.drop (s.length-9)) (i:=j) (by rw[length_drop];omega);rw[e2]at N;dsimp only;rw[R,gR (n:=((jt (s.getD (s.length-9+j) 0):Nat):Int)) (by omega) (by omega),gR (n:=10*((Num.val ((s.drop (s.length-9)).take j):Nat):Int)) (by omega) (by omega),gR (by omega) (by omega),aB (n:=((s.length-9:Nat):Int)+(j:Int)+1) (by omega) (by omega)];exact iO (q-1) (by omega) ⟨j+1,by omega,by omega,by omega,by rw[N];omega,rfl⟩
    ·have e:=dF e;have K:(s.drop (s.length-9)).take j=s.drop (s.length-9):=take_of_length_le (by rw[length_drop];omega);rw[K]at f⊢;refine⟨_,_,_,sX _,?_⟩;obtain⟨b,m,d,u,V,g7,S,g9⟩:=mg w Q O ((Num.val (s.drop (s.length-9)):Nat):Int) (by rw[lM];omega);refine⟨b,m,d,u,V,?_⟩;refine⟨_,Ru s (show s.length-9<=s.length by omega),?_⟩;refine TF (s.take (s.length-9)).length (by rw[length_take];omega) ⟨rfl,?_,by rw[length_take];omega,g9,a++[Num.val (s.drop (s.length-9))],?_,?_,?_,?_⟩
     ·rw[all_eq_true]at p⊢;exact λx c=>p x (List.mem_of_mem_take c)
     ·intro x c;rcases mem_append.1 c with c|c
      ·exact C x c
      ·rw[mem_singleton.1 c];exact f
     ·rw[List.length_append,length_take];simp;omega
     ·rw[map_append];exact S
     ·rw[qD,List.length_append,I,Ji (s:=s) rfl (by omega),List.length_singleton];rcases lt_or_ge s.length 10 with W|W
      ·rw[show s.length-9=0 by omega,take_zero,jV];simp
      ·rw[show s.length-(s.length-9)=9 by omega,show(10:Nat)^9=1000000000 from rfl,Nat.pow_succ,Nat.mul_add,Nat.mul_assoc];omega)
   exact T _ ⟨0,by omega,by omega,rfl,by simp[jV],rfl⟩
  ·have z:=dF z;obtain rfl:s=[]:=List.eq_nil_of_length_eq_zero (by omega);refine(r6 O (by omega)).mono ?_;rintro _ B ⟨M,L,J,rfl,Z,rfl⟩;refine⟨M,L,J,rfl,M,L,J,rfl,?_,Q⟩;rw[I,jV,Nat.mul_zero,Nat.add_zero,<-k4 (by omega) C];exact Z)
 exact HF l h _ (Y l.length ⟨rfl,hd,k,Ok.refl w,[],by simp,by simpa using k,.inl ⟨rfl,rfl⟩,by simp[Num.bv]⟩)
variable{j:Nat}{P:Program}
theorem Oh(x:Int)(h:ae):FW SS 206 [.int .u64 x] h (λv a=>v = .bool false/\a=h):=Yv x h _ ⟨by simp,rfl⟩
theorem Og(x:Int)(h:ae):FW SS 165 [.int .i64 x] h (λv a=>v = .bool false/\a=h):=Yu x h _ ⟨by simp,rfl⟩
theorem XN(m n:Nat)(h:ae):FW SS 196 [.int .u64 (m:Int),.int .u64 (n:Int)] h (λv c=>v = .int .i64 (eI m n)/\c=h):=by
 refine XM _ _ h _ ((Oh _ h).mono ?_);rintro _ _ ⟨rfl,rfl⟩;refine⟨_,rfl,(Oh _ _).mono ?_⟩;rintro _ _ ⟨rfl,rfl⟩;refine⟨_,rfl,aa (λe=>by cases e) (λ_=>aa (λe=>by cases e) (λ_=>aa (λa=>?_) (λa=>aa (λb=>?_) (λb=>?_))))⟩
 ·exact⟨by rw[lj (by have:=dT a;omega)],rfl⟩
 ·exact⟨by rw[lh (by have:=dT b;omega)],rfl⟩
 ·have a:=dF a;have b:=dF b;exact⟨by rw[show m=n by omega,qE],rfl⟩
theorem XL(m n:Nat)(h:ae):FW SS 195 [.int .i64 (m:Int),.int .i64 (n:Int)] h (λv c=>v = .int .i64 (eI m n)/\c=h):=by
 refine XJ _ _ h _ ((Og _ h).mono ?_);rintro _ _ ⟨rfl,rfl⟩;refine⟨_,rfl,(Og _ _).mono ?_⟩;rintro _ _ ⟨rfl,rfl⟩;refine⟨_,rfl,aa (λe=>by cases e) (λ_=>aa (λe=>by cases e) (λ_=>aa (λa=>?_) (λa=>aa (λb=>?_) (λb=>?_))))⟩
 ·exact⟨by rw[lj (by have:=dT a;omega)],rfl⟩
 ·exact⟨by rw[lh (by have:=dT b;omega)],rfl⟩
 ·have a:=dF a;have b:=dF b;exact⟨by rw[show m=n by omega,qE],rfl⟩
abbrev BB:Nat:=1000000000
abbrev bl(n:Nat):List Value:=(aW BB n).map uv
theorem gM:1<BB:=by decide
theorem qq{b:Option Addr}{c:Nat}{x:Nat}(E:Rd h 150 (.slice a n c) (bl x))(D:Rd h 150 (.slice b m k) (bl j))(I:(aW BB x).length<=10000)(w:Wf h):
  FW SS 186 [.slice a n c,.slice b m k] h (λv u=>v = .int .i64 (eI x j)/\Ok h u):=by
 have O:n=(aW BB x).length:=by have:=E.len;rwa[lM]at this
 have P:m=(aW BB j).length:=by have:=D.len;rwa[lM]at this
 have L:=λ(C:(aW BB x).length=(aW BB j).length)=>tc a n c b m k (λs i g=>i<=n/\s=n-i/\(aW BB x).drop (n-i)=(aW BB j).drop (n-i)/\Ok h g) (λv u=>v = .int .i64 (eI x j)/\Ok h u) (by
  intro s i;intros;rename_i g M;obtain⟨f,o,t,G⟩:=M;have B:wrap .i64 ((n:Int)-1)=(n:Int)-1:=aB (by omega) (by omega);have z:wrap .i64 ((n:Int)-1-(i:Int))=(n:Int)-1-(i:Int):=aB (by omega) (by omega);have A:wrap .i64 ((i:Int)+1)=((i+1:Nat):Int):=by rw[aB (by omega) (by omega)];omega
  rw[B,z,A];have l:=G.room 18;refine aa (λr=>?_) (λr=>?_)
  ·have r:=dT r;have N:((n:Int)-1-(i:Int)).toNat=n-1-i:=by omega
   obtain⟨p,J,H⟩:=FG (E.ok l) (i:=(n:Int)-1-(i:Int)) (by omega) (by omega);obtain⟨q,K,F⟩:=FG (D.ok l) (i:=(n:Int)-1-(i:Int)) (by omega) (by omega);rw[N]at H F;refine⟨p,J,_,H,q,K,_,F,(XN _ _ _).mono ?_⟩;rintro _ _ ⟨rfl,rfl⟩;have y:(aW BB x).drop (n-1-i+1)=(aW BB j).drop (n-1-i+1):=by rw[show n-1-i+1=n-i by omega];exact t
   refine⟨_,rfl,aa (λd=>?_) (λd=>?_)⟩
   ·refine⟨?_,l⟩;have d:eI ((aW BB x).getD (n-1-i) 0) ((aW BB j).getD (n-1-i) 0)≠0:=by simpa using d
    rcases Nat.lt_trichotomy ((aW BB x).getD (n-1-i) 0) ((aW BB j).getD (n-1-i) 0)with e|e|e
    ·have:=tg gM (dr gM x) C (by omega) y e;rw[cn gM,cn gM]at this;rw[lj e,lj this]
    ·rw[e,qE]at d;exact absurd rfl d
    ·have:=tg gM (dr gM j) C.symm (by omega) y.symm e;rw[cn gM,cn gM]at this;rw[lh e,lh this]
   ·have d:eI ((aW BB x).getD (n-1-i) 0) ((aW BB j).getD (n-1-i) 0)=0:=by simpa using d
    have e:(aW BB x).getD (n-1-i) 0=(aW BB j).getD (n-1-i) 0:=by
     unfold eI at d;split at d
     ·cases d
     ·split at d
      ·assumption
      ·cases d
    refine cd (s-1) (by omega) ⟨by omega,by omega,?_,l⟩;rw[show n-(i+1)=n-1-i by omega,drop_eq_getElem_cons (show n-1-i<(aW BB x).length by omega),drop_eq_getElem_cons (show n-1-i<(aW BB j).length by omega),y];congr 1;rw[gD,gE (by omega),gD,gE (by omega)]at e;exact e
  ·have r:=dF r;rw[show n-i=0 by omega,drop_zero,drop_zero]at t;have:x=j:=by rw[<-cn gM x,t,cn gM]
   exact⟨by rw[this,qE],G⟩)
 refine E7 a n c b m k h _ (aa (λf=>(XL _ _ h).mono ?_) (λf=>?_))
 ·rintro _ _ ⟨rfl,rfl⟩;have f:=Mr f;refine⟨_,rfl,?_,Ok.refl w⟩;rcases Nat.lt_trichotomy n m with o|o|o
  ·rw[lj o,lj (lP gM (by omega))]
  ·exact absurd o f
  ·rw[lh o,lh (lP gM (by omega))]
 ·have f:=L4 f;refine L (by omega) n (i:=0) ⟨by omega,by omega,?_,Ok.refl w⟩;rw[sub_zero,List.drop_of_length_le (by omega),List.drop_of_length_le (by omega)]
theorem JV{t:TypeId}{p:Value}(o:Ok h g)(a:aj P t h p=some v):aj P t g p=some v:=by
 unfold aj at a⊢;split at a
 ·next c=>
  split at a
  ·next cs _ _ _ b=>rw[o.ext _ _ b];exact a
  ·cases a
 ·cases a
theorem Na{p:Option Addr}(g:aj SS.P 150 h (.pointer p)=some (.int .u64 (k:Int)))(x y z:Nat)(c:x<BB)(e:k<=BB)(l:z<BB):
  FW SS 213 [.int .u64 (x:Int),.int .u64 (y:Int),.int .u64 (z:Int),.pointer p] h (λv d=>v = .tuple ⟨[uv (cY BB k x y z).1,uv (cY BB k x y z).2]⟩/\d=h):=by
 have i:BB=1000000000:=rfl;have j:x*k<=1000000000000000000:=Nat.le_trans (Nat.mul_le_mul (Nat.le_of_lt c) e) (by decide);have a:wrap .u64 ((x:Int)*(k:Int))=((x*k:Nat):Int):=by rw[<-Int.natCast_mul];exact gR (by omega) (by omega)
 have f:wrap .u64 (((x*k:Nat):Int)+(z:Int))=((x*k+z:Nat):Int):=by rw[<-Int.natCast_add];exact gR (by omega) (by omega)
 refine M9 _ _ _ p h _ ⟨_,g,?_⟩;dsimp only;rw[a,f];refine⟨_,gQ (b:=BB) (by omega) (by decide),_,pV (b:=BB) (by omega) (by omega) (by decide),?_,rfl⟩;unfold uv cY;rw[Int.natCast_emod,Int.natCast_ediv]
theorem EY{c:Nat}{p:Option Addr}(S:Rd h 150 (.slice a n c) (x.map uv))(C:∀d∈x,d<BB)(x0:x.length<=10000)(hp:aj SS.P 150 h (.pointer p)=some (.int .u64 (k:Int)))(A:0<k)(E:k<=BB)(w:Wf h):
  FW SS 193 [.slice a n c,.slice none 0 0,.func (.func 213) ⟨[]⟩ ⟨[.pointer p]⟩] h (ja h 150 (bl (Num.bv BB x*k))):=by
 have hn:n=x.length:=by have:=S.len;rwa[lM]at this
 have Z:BB=1000000000:=rfl;have hF:∀p q c,c<=BB-1->p<BB->(cY BB k p q c).2<=BB-1:=λp q c hc hp=>by
  unfold cY;dsimp only;have h1:p*k<=999999999*1000000000:=Nat.mul_le_mul (by omega) E;have:(p*k+c)/BB<BB:=Nat.div_lt_of_lt_mul (by rw[Z];omega);omega
 have T:∀j,eM (cY BB k) x [] 0 0 j<=BB-1:=by
  intro j
  induction j with
  |zero=>exact Nat.zero_le _
  |succ j ih=>exact hF _ _ _ ih (aZ (by decide) C _)
 have W:dV (bj (cY BB k) x [] 0 (n+1) 0)=aW BB (Num.bv BB x*k):=by
  rw[k4 gM (ju (λp q c=>mod_lt _ (by decide)) x [] (n+1) 0 0),Lu gM E A C (n+1) 0 0 (by omega) A (by omega)];rw[drop_zero,Nat.add_zero]
 have L:=ta a n c p ((n:Int)+1) (λz i cy r N P g=>i<=n+1/\z=n+1-i/\cy=(eM (cY BB k) x [] 0 0 i:Nat)/\ep h g 150 (.slice r N P) ((bj (cY BB k) x [] 0 i 0).map uv)/\Ok h g) (ja h 150 (bl (Num.bv BB x*k))) (by
  intro z i cy r N P;intros;rename_i g hi;obtain⟨h1,h2,rfl,F,v⟩:=hi;have K:wrap .i64 ((i:Int)+1)=((i+1:Nat):Int):=by rw[aB (by omega) (by omega)];omega
  rw[K];have l:(bj (cY BB k) x [] 0 i 0).length=i:=eX _ _ _ _ _ _;have f:=ig (cY BB k) x [] i 0 0;rw[Nat.zero_add]at f;have o:eM (cY BB k) x [] 0 0 (i+1)=(cY BB k (x.getD i 0) (([]:List Nat).getD i 0) (eM (cY BB k) x [] 0 0 i)).2:=by
   show(cY BB k (x.getD (0+i) 0) (([]:List Nat).getD (0+i) 0) _).2=_;rw[Nat.zero_add]
  have x1:=T i;have X:=aZ (b:=BB) (by decide) C i;have O:=JV v hp;have U:=Na O (x.getD i 0) (([]:List Nat).getD i 0) (eM (cY BB k) x [] 0 0 i) X E (by omega);have M:([]:List Nat).getD i 0=0:=by simp
  refine aa (λy=>?_) (λy=>?_)
  ·have y:=dT y;refine aa (λt=>?_) (λt=>?_)
   ·have t:=dT t;obtain⟨q,J,g3⟩:=FG (S.ok v) (i:=(i:Int)) (by omega) (by omega);rw[Int.toNat_natCast]at g3;refine⟨q,J,_,g3,aa (λs=>?_) (λs=>?_)⟩
    ·have:=dT s;omega
    ·refine(show FW SS 213 [.int .u64 ((x.getD i 0:Nat):Int),.int .u64 ((([]:List Nat).getD i 0:Nat):Int),.int .u64 ((eM (cY BB k) x [] 0 0 i:Nat):Int),.pointer p] g _ from U).mono ?_ |> (λe=>by rw[M]at e;exact e)
     rintro _ _ ⟨rfl,rfl⟩;refine⟨_,_,rfl,_,_,_,sX _,?_⟩;obtain⟨b,m,d,u,D,g7,B,G⟩:=mg w v F ((cY BB k (x.getD i 0) (([]:List Nat).getD i 0) (eM (cY BB k) x [] 0 0 i)).1:Nat) (by rw[lM,l];omega);refine⟨b,m,d,u,D,oZ (z-1) (by omega) ⟨by omega,by omega,by rw[o],?_,G⟩⟩;rw[f,map_append];exact B
   ·have t:=dF t;have V:x.getD i 0=0:=by rw[gD,List.getElem?_eq_none (by omega)];rfl
    refine aa (λs=>?_) (λs=>?_)
    ·have:=dT s;omega
    ·refine(show FW SS 213 [.int .u64 ((x.getD i 0:Nat):Int),.int .u64 ((([]:List Nat).getD i 0:Nat):Int),.int .u64 ((eM (cY BB k) x [] 0 0 i:Nat):Int),.pointer p] g _ from U).mono ?_ |> (λe=>by rw[M,V]at e;exact e)
     rintro _ _ ⟨rfl,rfl⟩;refine⟨_,_,rfl,_,_,_,sX _,?_⟩;obtain⟨b,m,d,u,D,g7,B,G⟩:=mg w v F ((cY BB k (x.getD i 0) (([]:List Nat).getD i 0) (eM (cY BB k) x [] 0 0 i)).1:Nat) (by rw[lM,l];omega);refine⟨b,m,d,u,D,oZ (z-1) (by omega) ⟨by omega,by omega,by rw[o],?_,G⟩⟩;rw[f,map_append];exact B
  ·have y:=dF y;obtain rfl:i=n+1:=by omega
   refine(r6 F (by rw[l];omega)).mono ?_;rintro _ J ⟨R,Q,I,rfl,Y,rfl⟩;rw[W]at Y;exact⟨R,Q,I,rfl,R,Q,I,rfl,Y,v⟩)
 refine EX a n c p h _ ⟨_,tL _ _ _,?_⟩;have H:(if(0:Int)>(n:Int)then(0:Int)else(n:Int))=(n:Int):=if_neg (by omega);have hw:wrap .i64 ((n:Int)+1)=(n:Int)+1:=aB (by omega) (by omega);dsimp only;rw[H,hw];exact L (n+1) (i:=0) ⟨by omega,by omega,rfl,.inl ⟨rfl,rfl⟩,Ok.refl w⟩
noncomputable def bC:FD:=cI Tryz.f203 [([1,1,1,1,0,0,0],[0,1,5,7,8]),([1,1,1,1,1,1,0,1,0,0],[0,1,5,7,9,10,87,88]),([1,1,1,1,1,1,1,1,1,0,1,0,0],[0,1,5,7,10,128,129])]
abbrev eR(a:OA)(n c:Nat)(b:OA)(m d:Nat)(q e:Int):LV:=[(.slice a n c),(.slice b m d),(iA m),(.int .u64 q),(.int .u64 e)]
abbrev dy(a:OA)(n c:Nat)(b:OA)(m d:Nat)(q e:Int)(i:Nat)(f cy:Int):LV:=[(.slice a n c),(.slice b m d),(iA m),(.int .u64 q),(.int .u64 f),(.int .u64 cy),(.int .i64 e),(iA i)]
abbrev gX(a:OA)(n c:Nat)(b:OA)(m d:Nat)(q e:Int)(i:Nat)(cy:Int):LV:=[(.slice a n c),(.slice b m d),(iA m),(.int .u64 q),(.int .u64 cy),(.int .i64 e),(iA i)]
theorem J1(a:OA)(n c:Nat)(b:OA)(m d:Nat)(h:ae)(Q:VH)(r:iP 177 (.slice a n c) (iA m) λq=>xI .u64 (aj SS.P 150 (room h 12) (.pointer (some q))) λp=>iP 177 (.slice a n c) (.int .i64 (wrap .i64 ((m:Int)-1))) λo=>xI .u64 (aj SS.P 150 (room h 12) (.pointer (some o))) λl=>iP 177 (.slice b m d) (.int .i64 (wrap .i64 ((m:Int)-1))) λk=>xI .u64 (aj SS.P 150 (room (room h 12) 16) (.pointer (some k))) λj=>xI .u64 (ax SS.P .quo 150 (.int .u64 (wrap .u64 (wrap .u64 (p*1000000000)+l))) (.int .u64 j)) λi=>iP 177 (.slice b m d) (.int .i64 (wrap .i64 ((m:Int)-1))) λg=>xI .u64 (aj SS.P 150 (room (room h 12) 16) (.pointer (some g))) λf=>xI .u64 (ax SS.P .rem 150 (.int .u64 (wrap .u64 (wrap .u64 (p*1000000000)+l))) (.int .u64 f)) λe=>LL SS bC [1,1,1,1,0,0,0] (eR a n c b m d i e) (room (room h 12) 16) (KK SS bC [1,1,1,1,0,0] [] (EE SS bC Q))):FW SS 203 [(.slice a n c),(.slice b m d)] h Q:=cN bC Tryz.func203 (ai r)
theorem vo(a:OA)(n c:Nat)(b:OA)(m d:Nat)  (o:Nat->Int->Int->ae->Prop) (Q:VH) (step:∀(p:Nat)(q l:Int)(s:Nat->Value)(h:ae),o p q l h->au (decide ((q:Int)>=1000000000)) (iP 177 (.slice b m d) (.int .i64 (wrap .i64 ((m:Int)-1))) λf=>xI .u64 (aj SS.P 150 (room h 28) (.pointer (some f))) λe=>au (decide ((wrap .u64 (l+e):Int)>=1000000000)) (au (decide ((wrap .u64 (q-1):Int)<1000000000)) (LL SS bC [1,1,1,1,1,1,0,1,0,0] (dy a n c b m d (wrap .u64 (q-1)) (wrap .i64 ((m:Int)+1)) 0 0 0) (room h 28) (KK SS bC [1,1,1,1,1,1,0,1,0] [] (EE SS bC Q))) (aJ (qX (eR a n c b m d) o) p [(.slice a n c),(.slice b m d),(iA m),(.int .u64 (wrap .u64 (q-1))),(.int .u64 (wrap .u64 (l+e)))] (room h 28))) (aJ (qX (eR a n c b m d) o) p [(.slice a n c),(.slice b m d),(iA m),(.int .u64 (wrap .u64 (q-1))),(.int .u64 (wrap .u64 (l+e)))] (room h 28))) (au (decide (((m:Int):Int)>1)) (au (decide ((l:Int)<1000000000)) (iP 177 (.slice b m d) (.int .i64 (wrap .i64 ((m:Int)-2))) λk=>xI .u64 (aj SS.P 150 (room h 28) (.pointer (some k))) λj=>iP 177 (.slice a n c) (.int .i64 (wrap .i64 ((m:Int)-2))) λi=>xI .u64 (aj SS.P 150 (room h 28) (.pointer (some i))) λg=>au (decide ((wrap .u64 (q*j):Int)>wrap .u64 (wrap .u64 (l*1000000000)+g))) (iP 177 (.slice b m d) (.int .i64 (wrap .i64 ((m:Int)-1))) λf=>xI .u64 (aj SS.P 150 (room h 28) (.pointer (some f))) λe=>au (decide ((wrap .u64 (l+e):Int)>=1000000000)) (au (decide ((wrap .u64 (q-1):Int)<1000000000)) (LL SS bC [1,1,1,1,1,1,0,1,0,0] (dy a n c b m d (wrap .u64 (q-1)) (wrap .i64 ((m:Int)+1)) 0 0 0) (room h 28) (KK SS bC [1,1,1,1,1,1,0,1,0] [] (EE SS bC Q))) (aJ (qX (eR a n c b m d) o) p [(.slice a n c),(.slice b m d),(iA m),(.int .u64 (wrap .u64 (q-1))),(.int .u64 (wrap .u64 (l+e)))] (room h 28))) (aJ (qX (eR a n c b m d) o) p [(.slice a n c),(.slice b m d),(iA m),(.int .u64 (wrap .u64 (q-1))),(.int .u64 (wrap .u64 (l+e)))] (room h 28))) (LL SS bC [1,1,1,1,1,1,0,1,0,0] (dy a n c b m d q (wrap .i64 ((m:Int)+1)) 0 0 0) (room h 28) (KK SS bC [1,1,1,1,1,1,0,1,0] [] (EE SS bC Q)))) (LL SS bC [1,1,1,1,1,1,0,1,0,0] (dy a n c b m d q (wrap .i64 ((m:Int)+1)) 0 0 0) (room h 28) (KK SS bC [1,1,1,1,1,1,0,1,0] [] (EE SS bC Q)))) (LL SS bC [1,1,1,1,1,1,0,1,0,0] (dy a n c b m d q (wrap .i64 ((m:Int)+1)) 0 0 0) (room h 28) (KK SS bC [1,1,1,1,1,1,0,1,0] [] (EE SS bC Q))))) (p:Nat) {q l:Int} {h:ae} (r:o p q l h):LL SS bC [1,1,1,1,0,0,0] (eR a n c b m d q l) h (KK SS bC [1,1,1,1,0,0] [] (EE SS bC Q)):=
 nt (eR a n c b m d) o (λp q l s h r=>ai (step p q l s h r)) p r
theorem vp(a:OA)(n c:Nat)(b:OA)(m d:Nat)(q t:Int)(v:Nat->Nat->Int->Int->ae->Prop)(Q:VH)(step:∀(w:Nat) (i:Nat) (u cy:Int) (y:Nat->Value) (h:ae),v w i u cy h->au (decide (((i:Int):Int)<t)) (au (decide (((i:Int):Int)<(m:Int))) (iP 177 (.slice b m d) (iA i) λs=>xI .u64 (aj SS.P 150 h (.pointer (some s))) λr=>iP 177 (.slice a n c) (iA i) λp=>xI .u64 (aj SS.P 150 h (.pointer (some p))) λo=>xI .u64 (ax SS.P .rem 150 (.int .u64 (wrap .u64 (cy+wrap .u64 (q*r)))) (.int .u64 1000000000)) λl=>xI .u64 (ax SS.P .rem 150 (.int .u64 (wrap .u64 (wrap .u64 (wrap .u64 (o+1000000000)-l)-u))) (.int .u64 1000000000)) λk=>xI .u64 (ax SS.P .quo 150 (.int .u64 (wrap .u64 (wrap .u64 (wrap .u64 (o+1000000000)-l)-u))) (.int .u64 1000000000)) λj=>xI .u64 (ax SS.P .quo 150 (.int .u64 (wrap .u64 (cy+wrap .u64 (q*r)))) (.int .u64 1000000000)) λg=>iP 177 (.slice a n c) (iA i) λf=>xU (ah SS.P 150 (.pointer (some f)) (.int .u64 k) h) h λ_ e=>aJ (LA3 (dy a n c b m d q t) v) w [(.slice a n c),(.slice b m d),(iA m),(.int .u64 q),(.int .u64 (wrap .u64 (1-j))),(.int .u64 g),(.int .i64 t),(.int .i64 (wrap .i64 ((i:Int)+1)))] e) (iP 177 (.slice a n c) (iA i) λp=>xI .u64 (aj SS.P 150 h (.pointer (some p))) λo=>xI .u64 (ax SS.P .rem 150 (.int .u64 cy) (.int .u64 1000000000)) λl=>xI .u64 (ax SS.P .rem 150 (.int .u64 (wrap .u64 (wrap .u64 (wrap .u64 (o+1000000000)-l)-u))) (.int .u64 1000000000)) λk=>xI .u64 (ax SS.P .quo 150 (.int .u64 (wrap .u64 (wrap .u64 (wrap .u64 (o+1000000000)-l)-u))) (.int .u64 1000000000)) λj=>xI .u64 (ax SS.P .quo 150 (.int .u64 cy) (.int .u64 1000000000)) λg=>iP 177 (.slice a n c) (iA i) λf=>xU (ah SS.P 150 (.pointer (some f)) (.int .u64 k) h) h λ_ e=>aJ (LA3 (dy a n c b m d q t) v) w [(.slice a n c),(.slice b m d),(iA m),(.int .u64 q),(.int .u64 (wrap .u64 (1-j))),(.int .u64 g),(.int .i64 t),(.int .i64 (wrap .i64 ((i:Int)+1)))] e)) (au (((u:Int)==0)) (Q (.int .u64 q) h) (LL SS bC [1,1,1,1,1,1,1,1,1,0,1,0,0] (gX a n c b m d q (wrap .i64 ((m:Int)+1)) 0 0) h (KK SS bC [1,1,1,1,1,1,1,1,1,0,1,0] [] (EE SS bC Q)))))(w:Nat){i:Nat}{u cy:Int}{h:ae}(x:v w i u cy h):LL SS bC [1,1,1,1,1,1,0,1,0,0] (dy a n c b m d q t i u cy) h (KK SS bC [1,1,1,1,1,1,0,1,0] [] (EE SS bC Q)):=
 Vk (dy a n c b m d q t) v (λw i u cy y h x=>ai (step w i u cy y h x)) w x
theorem vr(a:OA)(n c:Nat)(b:OA)(m d:Nat)(q r:Int)(s:Nat->Nat->Int->ae->Prop)(Q:VH)(step:∀(t:Nat) (i:Nat) (cy:Int) (v:Nat->Value) (h:ae),s t i cy h->au (decide (((i:Int):Int)<r)) (iP 177 (.slice a n c) (iA i) λp=>xI .u64 (aj SS.P 150 h (.pointer (some p))) λo=>au (decide (((i:Int):Int)<(m:Int))) (iP 177 (.slice b m d) (iA i) λl=>xI .u64 (aj SS.P 150 h (.pointer (some l))) λk=>xI .u64 (ax SS.P .rem 150 (.int .u64 (wrap .u64 (wrap .u64 (o+cy)+k))) (.int .u64 1000000000)) λj=>xI .u64 (ax SS.P .quo 150 (.int .u64 (wrap .u64 (wrap .u64 (o+cy)+k))) (.int .u64 1000000000)) λg=>iP 177 (.slice a n c) (iA i) λf=>xU (ah SS.P 150 (.pointer (some f)) (.int .u64 j) h) h λ_ e=>aJ (qX (gX a n c b m d q r) s) t [(.slice a n c),(.slice b m d),(iA m),(.int .u64 q),(.int .u64 g),(.int .i64 r),(.int .i64 (wrap .i64 ((i:Int)+1)))] e) (xI .u64 (ax SS.P .rem 150 (.int .u64 (wrap .u64 (o+cy))) (.int .u64 1000000000)) λj=>xI .u64 (ax SS.P .quo 150 (.int .u64 (wrap .u64 (o+cy))) (.int .u64 1000000000)) λg=>iP 177 (.slice a n c) (iA i) λf=>xU (ah SS.P 150 (.pointer (some f)) (.int .u64 j) h) h λ_ e=>aJ (qX (gX a n c b m d q r) s) t [(.slice a n c),(.slice b m d),(iA m),(.int .u64 q),(.int .u64 g),(.int .i64 r),(.int .i64 (wrap .i64 ((i:Int)+1)))] e)) (Q (.int .u64 (wrap .u64 (q-1))) h))(t:Nat){i:Nat}{cy:Int}{h:ae}(u:s t i cy h):LL SS bC [1,1,1,1,1,1,1,1,1,0,1,0,0] (gX a n c b m d q r i cy) h (KK SS bC [1,1,1,1,1,1,1,1,1,0,1,0] [] (EE SS bC Q)):=
 nt (gX a n c b m d q r) s (λt i cy v h u=>ai (step t i cy v h u)) t u
noncomputable def cw:FD:=cI Tryz.f189 [([1,1,1,1,1,0,0,0],[0,1,6,7,8,9]),([1,1,1,1,1,1,1,0,1,0,0],[0,1,4,6,7,8,9,49,50]),([1,1,1,1,1,1,1,1,1,1,0,1,0,0],[4,5,7,12,74,75])]
abbrev jf(a:OA)(n c:Nat)(b:OA)(m d:Nat)(j:Int)(e:OA)(f h:Nat)(r:OA)(g i:Nat):LV:=[(.slice a n c),(.slice b m d),(iA m),(.int .u64 j),(.slice r g i),(.slice e f h)]
abbrev jg(a:OA)(n c:Nat)(b:OA)(m d:Nat)(p:Int)(g:OA)(q l:Nat)(r:OA)(j o:Nat)(e:OA)(h k:Nat)(f:Int)(i:Nat):LV:=[(.slice a n c),(.slice b m d),(.slice g q l),(iA m),(.int .u64 p),(.slice r j o),(.slice e h k),(.int .i64 f),(iA i)]
abbrev jh(e:Int)(g:OA)(f c:Nat)(r:OA)(b d:Nat)(a:Int)(i:Nat)(left:Int):LV:=[(.slice g f c),(.slice r b d),(.int .u64 e),(.int .u64 left),(.int .i64 a),(iA i)]
theorem HG(a:OA)(n c:Nat)(b:OA)(m d:Nat)(h:ae)(Q:VH)(w:FW SS 186 [(.slice a n c),(.slice b m d)] h λu v=>yI .i64 u λt=>au (decide ((t:Int)<0)) (Q (.tuple ⟨[nA,(.slice a n c)]⟩) v) (iP 177 (.slice b m d) (.int .i64 (wrap .i64 ((m:Int)-1))) λs=>xI .u64 (aj SS.P 150 v (.pointer (some s))) λr=>xI .u64 (ax SS.P .quo 150 (.int .u64 1000000000) (.int .u64 (wrap .u64 (r+1)))) λq=>FW SS 202 [(.slice a n c),(.int .u64 q)] v λo p=>yL o λj k l=>FW SS 202 [(.slice b m d),(.int .u64 q)] p λh i=>yL h λe f g=>LL SS cw [1,1,1,1,1,0,0,0] (jf a n c b m d q e f g j k l) i (KK SS cw [1,1,1,1,1,0,0] [] (EE SS cw Q)))):FW SS 189 [(.slice a n c),(.slice b m d)] h Q:=cN cw Tryz.func189 (ai w)
theorem tQ(a:OA)(n c:Nat)(b:OA)(m d:Nat)(v:Int)(e:OA)(t u:Nat)(s:Nat->OA->Nat->Nat->ae->Prop)(Q:VH)(step:∀(q:Nat) (r:OA) (o p:Nat) (x:Nat->Value) (h:ae),s q r o p h->au (decide (((o:Int):Int)<=(n:Int))) (xR (aG SS.P 177 1 [(0,(.int .u64 0))]) h λ_ j k l=>xE (bI SS.P 177 177 (.slice r o p) (sA (h.next) j k) l) l λf g h _ i=>aJ (LA3 (jf a n c b m d v e t u) s) q [(.slice a n c),(.slice b m d),(iA m),(.int .u64 v),(.slice f g h),(.slice e t u)] i) (xR (cj SS.P 177 (.int .i64 (wrap .i64 ((o:Int)-(m:Int)))) (.int .i64 (wrap .i64 ((o:Int)-(m:Int))))) h λ_ f g i=>LL SS cw [1,1,1,1,1,1,1,0,1,0,0] (jg a n c b m d v (some ⟨h.next,0,none⟩) f g r o p e t u (f:Int) 0) i (KK SS cw [1,1,1,1,1,1,1,0,1,0] [] (EE SS cw Q))))(q:Nat){r:OA}{o p:Nat}{h:ae}(w:s q r o p h):LL SS cw [1,1,1,1,1,0,0,0] (jf a n c b m d v e t u r o p) h (KK SS cw [1,1,1,1,1,0,0] [] (EE SS cw Q)):=
 Vk (jf a n c b m d v e t u) s (λq r o p x h w=>ai (step q r o p x h w)) q w
theorem tR(a:OA)(n c:Nat)(b:OA)(m d:Nat)(B:Int)(g:OA)(s x:Nat)(r:OA)(w y:Nat)(e:OA)(z A:Nat)(t:Int)(v:Nat->Nat->ae->Prop)(Q:VH)(step:∀(u:Nat) (i:Nat) (D:Nat->Value) (h:ae),v u i h->au (decide (((i:Int):Int)<t)) (xL (bG SS.P 177 (.slice r w y) (some (.int .i64 (wrap .i64 (wrap .i64 ((s:Int)-1)-(i:Int))))) (some (.int .i64 (wrap .i64 (wrap .i64 (wrap .i64 (wrap .i64 ((s:Int)-1)-(i:Int))+(m:Int))+1)))) none h) λo p q=>FW SS 203 [(.slice o p q),(.slice e z A)] h λk l=>yI .u64 k λj=>xP (aA SS.P 177 (.slice g s x) (.int .i64 (wrap .i64 (wrap .i64 ((s:Int)-1)-(i:Int))))) λh=>xU (ah SS.P 150 (.pointer (some h)) (.int .u64 j) l) l λ_ f=>aJ (fm (jg a n c b m d B g s x r w y e z A t) v) u [(.slice a n c),(.slice b m d),(.slice g s x),(iA m),(.int .u64 B),(.slice r w y),(.slice e z A),(.int .i64 t),(.int .i64 (wrap .i64 ((i:Int)+1)))] f) (FW SS 174 [(.slice r w y)] h λd e=>yL d λa b c=>LL SS cw [1,1,1,1,1,1,1,1,1,1,0,1,0,0] (jh B g s x a b c (b:Int) 0 0) e (KK SS cw [1,1,1,1,1,1,1,1,1,1,0,1,0] [] (EE SS cw Q))))(u:Nat){i:Nat}{h:ae}(C:v u i h):LL SS cw [1,1,1,1,1,1,1,0,1,0,0] (jg a n c b m d B g s x r w y e z A t i) h (KK SS cw [1,1,1,1,1,1,1,0,1,0] [] (EE SS cw Q)):=
 dg (jg a n c b m d B g s x r w y e z A t) v (λu i D h C=>ai (step u i D h C)) u C
theorem tS(a:OA)(n c:Nat)(b:OA)(m d:Nat)(s:Int)(g:OA)(u t:Nat)(r:OA)(k p:Nat)(l:Int)(q:Nat->Nat->Int->ae->Prop)(Q:VH)(step:∀(o:Nat) (i:Nat) (left:Int) (w:Nat->Value) (h:ae),q o i left h->au (decide (((i:Int):Int)<l)) (xP (aA SS.P 177 (.slice r k p) (.int .i64 (wrap .i64 (wrap .i64 ((k:Int)-1)-(i:Int))))) λf=>xI .u64 (aj SS.P 150 h (.pointer (some f))) λe=>xI .u64 (ax SS.P .quo 150 (.int .u64 (wrap .u64 (wrap .u64 (left*1000000000)+e))) (.int .u64 s)) λd=>xI .u64 (ax SS.P .rem 150 (.int .u64 (wrap .u64 (wrap .u64 (left*1000000000)+e))) (.int .u64 s)) λc=>xP (aA SS.P 177 (.slice r k p) (.int .i64 (wrap .i64 (wrap .i64 ((k:Int)-1)-(i:Int))))) λb=>xU (ah SS.P 150 (.pointer (some b)) (.int .u64 d) (room h 11)) (room h 11) λ_ a=>aJ (qX (jh s g u t r k p l) q) o [(.slice g u t),(.slice r k p),(.int .u64 s),(.int .u64 c),(.int .i64 l),(.int .i64 (wrap .i64 ((i:Int)+1)))] a) (FW SS 174 [(.slice g u t)] h λi j=>yL i λf g h=>FW SS 174 [(.slice r k p)] j λd e=>yL d λa b c=>Q (.tuple ⟨[(.slice f g h),(.slice a b c)]⟩) e))(o:Nat){i:Nat}{left:Int}{h:ae}(v:q o i left h):LL SS cw [1,1,1,1,1,1,1,1,1,1,0,1,0,0] (jh s g u t r k p l i left) h (KK SS cw [1,1,1,1,1,1,1,1,1,1,0,1,0] [] (EE SS cw Q)):=
 nt (jh s g u t r k p l) q (λo i left w h v=>ai (step o i left w h v)) o v
section
def cQ(cs:List Value)(off:Nat)(W:List Nat):List Value:=cs.take off++W.map uv++cs.drop (off+W.length)
structure I7(h:ae)(k:Nat)(h':ae):Prop where
 wf:Wf h'
 jA:∀j B,j≠k->h.get j=some B->h'.get j=some B
 nx:h.next<=h'.next
theorem I7.refl{k:Nat}(w:Wf h):I7 h k h:=⟨w,λ_ _ _ h=>h,Nat.le_refl _⟩
theorem I7.room{h a:ae}{k:Nat}(o:I7 h k a)(n:Nat):I7 h k (room a n):=⟨λj B b=>Nat.lt_of_lt_of_le (o.wf j B b) (Nat.le_add_right _ _),o.jA,Nat.le_trans o.nx (Nat.le_add_right _ _)⟩
theorem I7.set{c:ae}{k:Nat}(o:I7 h k c)(d:k<c.next)(B:dN):I7 h k (c.set k B):=by
 refine⟨λj C a=>?_,λj C b a=>?_,o.nx⟩
 ·rw[ae.av]at a;split at a
  ·next e=>rw[e];exact d
  ·exact o.wf _ _ a
 ·rw[ae.av,if_neg b];exact o.jA _ _ b a
theorem xW{k off c:Nat}{i:Int}(b:0<=i)(a:i<n):aA SS.P 177 (.slice (some ⟨k,off,none⟩) n c) (.int .i64 i)=some (.pointer (some ⟨k,off+i.toNat,none⟩)):=by
 unfold aA;rw[Bg];dsimp only;rw[EB];dsimp only;rw[if_pos ⟨b,a⟩,Nat.mul_one,dB]
section
variable {g:ae} {k off:Nat} {cs:List Value} {W:List Nat}
theorem Dq(b:g.get k=some (.cells (cQ cs off W) 150 1 true))(c:off+W.length<=cs.length){i:Nat}(a:i<W.length):aj SS.P 150 g (.pointer (some ⟨k,off+i,none⟩))=some (.int .u64 (W.getD i 0:Nat)):=by
 unfold aj;rw[OL];dsimp only;rw[b];dsimp only;rw[NP];simp only[Bool.false_eq_true,if_false];unfold cQ;rw[append_assoc,List.getElem?_append_right (by rw[length_take];omega),length_take,Nat.min_eq_left (by omega),Nat.add_sub_cancel_left,List.getElem?_append_left (by rw[lM];exact a),getElem?_map,gE a,gD,gE a];rfl
theorem D4(h:g.get k=some (.cells (cQ cs off W) 150 1 true))(j:off+W.length<=cs.length){i:Nat}(b:i<W.length)(d:Nat):ah SS.P 150 (.pointer (some ⟨k,off+i,none⟩)) (.int .u64 (d:Int)) g=some (undef,.set k (.cells (cQ cs off (W.set i d)) 150 1 true)):=by
 show(if aF SS.P 150=some 1 then(storeAt g k (off+i) [.int .u64 (d:Int)]).map λu=>(undef,u)else none)=_;rw[if_pos EB];unfold storeAt;rw[h];dsimp only;have a:(cQ cs off W).length=cs.length:=by
  unfold cQ;simp only[List.length_append,length_take,lM,length_drop];omega
 rw[if_pos ⟨by rw[a];simp;omega,rfl⟩];have e:(cQ cs off W).take (off+i)++[Value.int .u64 (d:Int)]++(cQ cs off W).drop (off+i+[Value.int .u64 (d:Int)].length)=cQ cs off (W.set i d):=by
  have f:(cs.take off).length=off:=by rw[length_take];omega
  have c:(cQ cs off W).take (off+i)++[Value.int .u64 (d:Int)]++(cQ cs off W).drop (off+i+[Value.int .u64 (d:Int)].length)=(cQ cs off W).set (off+i) (.int .u64 (d:Int)):=by
   rw[List.set_eq_take_append_cons_drop,if_pos (by rw[a];omega),append_assoc];rfl
  rw[c];unfold cQ;rw[append_assoc,List.set_append,if_neg (by omega),f,Nat.add_sub_cancel_left,List.set_append,if_pos (by rw[lM];exact b),length_set,append_assoc,map_set];rfl
 rw[e];rfl
end
end
end Go.Proofs.YtaaichlgdgjgjaaGreatDoor
end
