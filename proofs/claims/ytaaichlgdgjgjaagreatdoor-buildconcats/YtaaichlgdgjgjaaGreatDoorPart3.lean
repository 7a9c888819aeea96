/- Laws and walks that the proof leans on (part 3): NumWeight; NumGraph; NumRatV; NumStar; NumSemi; NumSem and others. No condition. -/
import Derived.Test.YtaaichlgdgjgjaaGreatDoorPart2
import Derived.Test.YtaaichlgdgjgjaaGreatDoorProg
set_option linter.unusedVariables false
set_option linter.unusedSimpArgs false
set_option maxRecDepth 100000
open List (all_eq_true drop_eq_getElem_cons drop_zero getElem_mem length_drop length_replicate length_set length_take map_append map_set mem_append mem_singleton take_of_length_le take_zero)
open Nat (lt_irrefl lt_or_ge mod_lt mul_pos ne_of_gt sub_zero)
open Option (getD_some)
open Go.IntKind (wrap)
section
namespace Go.Num
theorem Jn:ay [105,110,102]=false:=by rfl
theorem wj:ay [45,105,110,102]=false:=by rfl
theorem eA:ay [48]=true:=by decide
theorem E9{a:List UInt8}(h:ay a=true):cI a [48]=0↔a=[48]:=by
 constructor
 ·intro e;unfold cI at e;rw[if_pos ⟨h,eA⟩]at e;have r:=aW.1 h;have f:val (ak [48])=1:=by decide
  have i:val (numOf [48])=0:=by decide
  rw[f,i,Nat.mul_one,Nat.zero_mul,show isNeg [48]=false from rfl,Bool.not_false]at e;have d:val (numOf a)=0:=by
   unfold di at e;by_cases b:isNeg a=true
   ·rw[if_pos b]at e;dsimp only at e;rw[Nat.add_zero]at e;by_cases c:val (numOf a)=0
    ·exact c
    ·rw[if_neg c,if_pos b]at e;exact absurd e (by decide)
   ·rw[if_neg b,if_neg (Nat.not_lt_zero _)]at e;dsimp only at e;rw[sub_zero]at e;by_cases c:val (numOf a)=0
    ·exact c
    ·rw[if_neg c,if_neg b]at e;exact absurd e (by decide)
  have b:=(iH r.num).2 d;have k:isNeg a=false:=by
   cases g:isNeg a with
   |false=>rfl
   |true=>exact absurd ⟨g,b⟩ r.neg
  have j:ak a=[49]:=by
   refine(tS r.den).2 ?_;have:=r.one;rw[d,Nat.gcd_zero_left]at this;exact this
  have l:bo a=false:=by
   cases g:bo a with
   |false=>rfl
   |true=>exact absurd ⟨g,.inr j⟩ r.fr
  grind[take_of_length_le,bk,numOf,bo]
 ·rintro rfl;decide
def bj(b:Int)(a:List UInt8):Bool:=decide (1<=b/\b<=3)&&ay a&&(b==1||decide (0<cI a [48]))
variable{n:Nat}{m:Nat}
def fm(s:Bool)(n:Nat):Int:=if s=true then -(n:Int)else n
def bh(a:List UInt8):Rat:=mkRat (fm (isNeg a) (val (numOf a))) (val (ak a))
def cX(s:Bool)(n d:Nat):List UInt8:=(if s=true/\n≠0 then[45]else[])++(ag n++(if d=1 then[]else 47::ag d))
theorem Hv(n:Nat):∃c r,ag n=c::r/\bV c=true:=by
 have h:=de n
 cases e:ag n with
 |nil=>grind[rQ]
 |cons c r=>grind
theorem CX{c:UInt8}(r:List UInt8):∀{l:List UInt8},(∀x∈l,x≠c)->cW c (l++r)=l.length+cW c r
 |[],_=>by simp
 |x::l,h=>by
  show(if x=c then 0 else cW c (l++r)+1)=_;rw[if_neg (h x (List.mem_cons_self ..)),CX r λy a=>h y (List.mem_cons_of_mem _ a),List.length_cons];omega
theorem SV{c:UInt8}(b:bV c=false):∀x∈ag n,x≠c:=λx a e=>by grind[de]
structure CH(a:List UInt8)(s:Bool)(n d:Nat):Prop where
 neg:isNeg a=s
 num:numOf a=ag n
 den:ak a=ag d
 str:bo a=decide (d≠1)
theorem Je(s:Bool)(n d:Nat):isNeg (cX s n d)=decide (s=true/\n≠0)/\bk (cX s n d)=ag n++(if d=1 then[]else 47::ag d):=by
 have b:isNeg (cX s n d)=decide (s=true/\n≠0):=by
  unfold cX isNeg;by_cases c:s=true/\n≠0
  ·rw[if_pos c,decide_eq_true c];rfl
  ·rw[if_neg c,decide_eq_false c];obtain⟨x,r,e,a⟩:=Hv n;rw[e];show(some x==some 45)=false;have:x≠45:=λe=>by rw[e]at a;exact absurd a (by decide)
   simpa using this
 refine⟨b,?_⟩;unfold bk;rw[b];unfold cX
 grind
theorem yg(s:Bool)(n d:Nat):CH (cX s n d) (decide (s=true/\n≠0)) n d:=by
 obtain⟨b,e⟩:=Je s n d;have f:cW 47 (ag n++(if d=1 then[]else 47::ag d))=(ag n).length:=by
  rw[CX _ (SV (by decide))];split
  ·rfl
  ·rfl
 have a:bo (cX s n d)=decide (d≠1):=by
  unfold bo;rw[e,f];by_cases c:d=1
  ·grind
  ·grind
 refine⟨b,?_,?_,a⟩
 ·simp_all[numOf]
 ·unfold ak;rw[a];by_cases c:d=1
  all_goals simp_all[Bo]
theorem rM(s:Bool):fm s 0=0:=by grind[fm]
theorem PB(s:Bool)(n:Nat):fm (decide (s=true/\n≠0)) n=fm s n:=by
 by_cases c:n=0
 ·subst c;rw[rM,rM]
 simp_all
theorem uW(s:Bool)(n:Nat):(fm s n).natAbs=n:=by grind[fm]
theorem CH.val{a:List UInt8}{s:Bool}(p:CH a s n m):bh a=mkRat (fm s n) m:=by
 unfold bh;rw[p.neg,p.num,p.den,bD,bD]
theorem C0(s:Bool)(n d:Nat):bh (cX s n d)=mkRat (fm s n) d:=by rw[(yg s n d).val,PB]
theorem Bj{s:Bool}(c:(ag n).length<=400)(e:(ag m).length<=400)(d:0<m)(f:Nat.gcd n m=1):ay (cX s n m)=true:=by
 have p:=yg s n m;have b:∀a,(ag a).length<=400->valid (ag a)=true:=λa h=>gG.2 ⟨we a,by omega⟩;refine aW.2 ⟨?_,?_,?_,?_,?_,?_,?_⟩
 ·rw[p.num];grind
 ·rw[p.den];grind
 ·rw[p.num];omega
 ·rw[p.den];omega
 ·rw[p.neg,p.num,bR]
  grind
 ·rw[p.str,p.den,bR,eB]
  grind
 ·rw[p.num,p.den,bD,bD];omega
theorem gZ.den_pos{a:List UInt8}(r:gZ a):0<val (ak a):=by
 refine Nat.pos_of_ne_zero λe=>?_;have h:=(iH r.den).2 e
 cases b:bo a with
 |true=>exact r.fr ⟨b,.inl h⟩
 |false=>grind[ak]
theorem gZ.txt{a:List UInt8}(r:gZ a):a=cX (isNeg a) (val (numOf a)) (val (ak a)):=by
 obtain⟨n,o,_,k⟩:=cG r.num;obtain⟨d,q,_,f⟩:=cG r.den;have s:(if isNeg a=true/\val (numOf a)≠0 then[45]else([]:List UInt8))=if isNeg a=true then[45]else[]:=by
  by_cases c:isNeg a=true
  ·rw[if_pos c,if_pos ⟨c,λe=>r.neg ⟨c,(iH r.num).2 e⟩⟩]
  ·rw[if_neg c,if_neg λh=>c h.1]
 have u:a=(if isNeg a=true then[45]else[])++bk a:=by
  unfold bk;by_cases c:isNeg a=true
  ·rw[if_pos c,if_pos c];unfold isNeg at c
   cases a with
   |nil=>cases c
   |cons x l=>
    have:x=45:=by simpa using c
    rw[this];rfl
  ·rw[if_neg c,if_neg c];rfl
 have g:bo a=true↔val (ak a)≠1:=by
  constructor
  ·exact λh e=>r.fr ⟨h,.inr ((tS r.den).2 e)⟩
  ·intro h
   cases c:bo a with
   |true=>rfl
   |false=>
    refine absurd ?_ h;unfold ak;rw[c];exact Jz
 have t:bk a=ag (val (numOf a))++(if val (ak a)=1 then[]else 47::ag (val (ak a))):=by
  rw[k,f,<-o,<-q];by_cases c:bo a=true
  ·rw[if_neg (by rw[<-f];exact g.1 c)];have i:ak a=(bk a).drop (cW 47 (bk a)+1):=by unfold ak;rw[if_pos c]
   rw[i];unfold numOf;unfold bo at c;have c:=dT c;have b:∀{l:List UInt8},cW 47 l<l.length->l=l.take (cW 47 l)++47::l.drop (cW 47 l+1):=λ{l}=>by
    induction l with
    |nil=>intro h;simp at h
    | cons x l p=>
     intro h;by_cases e:x=47
     ·have:cW 47 (x::l)=0:=by unfold cW;rw[if_pos e]
      rw[this,e];rfl
     ·have j:cW 47 (x::l)=cW 47 l+1:=by unfold cW;rw[if_neg e];cases l<;>rfl
      rw[j,List.take_succ_cons,List.drop_succ_cons,List.cons_append,<-p (by rw[j]at h;simpa using h)]
   exact b c
  ·have m:val (ak a)=1:=Classical.byContradiction λh=>c (g.2 h);rw[if_pos (by rw[<-f];exact m),List.append_nil];unfold numOf;unfold bo at c;rw[take_of_length_le (by simp at c;exact c)]
 grind[cX]
theorem gZ.xm{a:List UInt8}(r:gZ a):(bh a).num=fm (isNeg a) (val (numOf a)):=by
 unfold bh;rw[Rat.num_mkRat,if_neg (ne_of_gt r.den_pos),uW,Nat.gcd_comm,r.one];simp
theorem gZ.HI{a:List UInt8}(r:gZ a):(bh a).den=val (ak a):=by
 unfold bh;rw[Rat.den_mkRat,if_neg (ne_of_gt r.den_pos),uW,Nat.gcd_comm,r.one];simp
theorem wT{a b:List UInt8}(m:ay a=true)(i:ay b=true)(e:bh a=bh b):a=b:=by
 have f:=aW.1 m;have d:=aW.1 i;have g:=f.xm;have h:=f.HI;rw[e,d.xm]at g;rw[e,d.HI]at h;have l:val (numOf a)=val (numOf b):=by
  have:=congrArg Int.natAbs g;rw[uW,uW]at this;exact this.symm
 rw[f.txt,d.txt,<-h,<-l];congr 1;by_cases n:val (numOf a)=0
 ·have j:isNeg a=false:=by
   cases c:isNeg a with
   |false=>rfl
   |true=>exact absurd ⟨c,(iH f.num).2 n⟩ f.neg
  have k:isNeg b=false:=by
   cases c:isNeg b with
   |false=>rfl
   |true=>exact absurd ⟨c,(iH d.num).2 (by omega)⟩ d.neg
  rw[j,k]
 grind[fm]
theorem C2(s:Bool)(A:Nat)(t:Bool)(B:Nat):fm (di s A t B).1 (di s A t B).2=fm s A+fm t B:=by
 unfold di fm
 grind
theorem F3(s:Bool)(n:Nat):fm (!s) n = - fm s n:=by grind[fm]
theorem S1{s:Bool}:fm s n<0↔s=true/\n≠0:=by grind[fm]
theorem Js{s:Bool}:fm s n=0↔n=0:=by grind[fm]
theorem F2(s t:Bool)(m n:Nat):fm (s !=t) (m*n)=fm s m*fm t n:=by unfold fm;grind
theorem mL(s:Bool)(m n:Nat):fm s (m*n)=fm s m*n:=by grind[fm]
theorem pV{a b:List UInt8}(f:ay a=true)(c:ay b=true):(cI a b<0↔bh a<bh b)/\(cI a b=0↔bh a=bh b):=by
 have e:=aW.1 f;have d:=aW.1 c;unfold cI;rw[if_pos ⟨f,c⟩];have h:=C2 (isNeg a) (val (numOf a)*val (ak b)) (!isNeg b) (val (numOf b)*val (ak a));generalize di (isNeg a) (val (numOf a)*val (ak b)) (!isNeg b) (val (numOf b)*val (ak a))=z at*;rw[F3,mL,mL,<-e.xm,<-d.xm,<-e.HI,<-d.HI]at h;rw[Rat.lt_iff,Rat.eq_iff_mul_eq_mul];have g:=S1 (s:=z.1) (n:=z.2);have i:=Js (s:=z.1) (n:=z.2)
 grind
def kC(s:Bool)(n d:Nat):Option (List UInt8):=if 400<(ag (n/Nat.gcd n d)).length\/400<(ag (d/Nat.gcd n d)).length then none else some (cX s (n/Nat.gcd n d) (d/Nat.gcd n d))
def oX(a b:List UInt8):Option (List UInt8):=kC (di (isNeg a) (val (numOf a)*val (ak b)) (isNeg b) (val (numOf b)*val (ak a))).1 (di (isNeg a) (val (numOf a)*val (ak b)) (isNeg b) (val (numOf b)*val (ak a))).2 (val (ak a)*val (ak b))
def zS(a b:List UInt8):Option (List UInt8):=kC (isNeg a !=isNeg b) (val (numOf a)*val (numOf b)) (val (ak a)*val (ak b))
def Hr(a b:List UInt8):Option (List UInt8):=kC (isNeg a !=isNeg b) (val (numOf a)*val (ak b)) (val (ak a)*val (numOf b))
def qx(a:List UInt8):List UInt8:=cX (!isNeg a) (val (numOf a)) (val (ak a))
theorem tK{s:Bool}{c:List UInt8}(b:0<m)(h:kC s n m=some c):ay c=true/\bh c=mkRat (fm s n) m:=by
 unfold kC at h;split at h
 ·cases h
 ·next g=>
  obtain rfl:=oI h;have e:0<Nat.gcd n m:=Nat.gcd_pos_of_pos_right n b;have f:=Nat.gcd_dvd_left n m;have d:=Nat.gcd_dvd_right n m;have a:0<m/Nat.gcd n m:=Nat.div_pos (Nat.le_of_dvd b d) e;refine⟨Bj (by omega) (by omega) a ?_,?_⟩
  ·grind[Nat.gcd_div,Nat.div_self]
  ·rw[C0,Rat.mkRat_eq_iff (ne_of_gt a) (ne_of_gt b),<-mL,<-mL]
   grind[Nat.div_mul_cancel,Nat.mul_assoc]
theorem Mb{s:Bool}(a:(ag n).length<=400)(b:(ag m).length<=400)(c:Nat.gcd n m=1):kC s n m=some (cX s n m):=by simp_all[kC]
theorem nw{a b c:List UInt8}(j:ay a=true)(f:ay b=true)(h:oX a b=some c):ay c=true/\bh c=bh a+bh b:=by
 have e:=aW.1 j;have d:=aW.1 f;obtain⟨g,i⟩:=tK (mul_pos e.den_pos d.den_pos) h;refine⟨g,?_⟩;rw[i,C2,mL,mL];unfold bh;rw[Rat.mkRat_add_mkRat _ _ (ne_of_gt e.den_pos) (ne_of_gt d.den_pos)]
theorem Bk{a b c:List UInt8}(g:ay a=true)(d:ay b=true)(h:zS a b=some c):ay c=true/\bh c=bh a*bh b:=by
 have f:=aW.1 g;have e:=aW.1 d;obtain⟨i,j⟩:=tK (mul_pos f.den_pos e.den_pos) h
 grind[F2,Rat.mkRat_mul_mkRat,bh]
theorem Ji{a b c:List UInt8}(l:ay a=true)(i:ay b=true)(f:val (numOf b)≠0)(h:Hr a b=some c):ay c=true/\bh c=bh a*(bh b)⁻¹:=by
 have d:=aW.1 l;have g:=aW.1 i;obtain⟨j,k⟩:=tK (mul_pos d.den_pos (Nat.pos_of_ne_zero f)) h;refine⟨j,?_⟩;have m:bh c*bh b=bh a:=by
  rw[k,F2];unfold bh;rw[Rat.mkRat_mul_mkRat,Rat.mkRat_eq_iff (ne_of_gt (mul_pos (mul_pos d.den_pos (Nat.pos_of_ne_zero f)) g.den_pos)) (ne_of_gt d.den_pos)];have e:∀(s t:Bool)(A B C D:Nat),fm s A*fm t B*fm t C*(D:Int)=fm s A*((D*C*B:Nat):Int):=λs t A B C D=>by
   unfold fm
   cases s<;>cases t<;>simp<;>grind
  exact e _ _ _ _ _ _
 have n:bh b≠0:=λe=>f (by
  have:=g.xm;rw[e]at this;exact Js.1 this.symm)
 grind
theorem uV{a:List UInt8}(g:ay a=true):ay (qx a)=true/\bh (qx a) = - bh a:=by
 have b:=aW.1 g;obtain⟨n,e,_,c⟩:=cG b.num;obtain⟨d,f,_,h⟩:=cG b.den;unfold qx;refine⟨Bj ?_ ?_ b.den_pos b.one,?_⟩
 ·rw[c,<-e];exact b.ln
 ·rw[h,<-f];exact b.ld
 grind[C0,F3,Rat.neg_mkRat,bh]
section
structure aP(K:Type) where
 zero:K
 one:K
 add:K->K->K
 mul:K->K->K
 star:K->K
 le:K->K->Prop
 add_assoc:∀a b c,add (add a b) c=add a (add b c)
 add_comm:∀a b,add a b=add b a
 zero_add:∀a,add zero a=a
 mul_assoc:∀a b c,mul (mul a b) c=mul a (mul b c)
 mul_comm:∀a b,mul a b=mul b a
 one_mul:∀a,mul one a=a
 zero_mul:∀a,mul zero a=zero
 mul_add:∀a b c,mul a (add b c)=add (mul a b) (mul a c)
 le_refl:∀a,le a a
 le_trans:∀{a b c},le a b->le b c->le a c
 Cs:∀{a b},le a b->le b a->a=b
 zero_le:∀a,le zero a
 wY:∀{a b c d},le a b->le c d->le (add a c) (add b d)
 H7:∀{a b}(c),le a b->le (mul c a) (mul c b)
 zv:∀a,add one (mul a (star a))=star a
 sS:∀{a b x},le (add b (mul a x)) x->le (mul (star a) b) x
namespace aP
def ca{K:Type}(S:aP K)(f:Nat->K):Nat->K
 |0=>S.zero
 |n+1=>S.add (ca S f n) (f n)
variable {K:Type} {S:aP K}
theorem add_zero(a:K):S.add a S.zero=a:=by rw[S.add_comm,S.zero_add]
theorem mul_zero(a:K):S.mul a S.zero=S.zero:=by rw[S.mul_comm,S.zero_mul]
theorem mul_one(a:K):S.mul a S.one=a:=by rw[S.mul_comm,S.one_mul]
theorem add_mul(a b c:K):S.mul (S.add a b) c=S.add (S.mul a c) (S.mul b c):=by rw[S.mul_comm,S.mul_add,S.mul_comm c a,S.mul_comm c b]
theorem Fj(a b c:K):S.add a (S.add b c)=S.add b (S.add a c):=by rw[<-S.add_assoc,S.add_comm a b,S.add_assoc]
theorem abe(a b c d:K):S.add (S.add a b) (S.add c d)=S.add (S.add a c) (S.add b d):=by rw[S.add_assoc,S.add_assoc,Fj b c d]
theorem ax{f g:Nat->K}:∀{n:Nat},(∀i,i<n->f i=g i)->S.ca f n=S.ca g n
 |0,_=>rfl
 |n+1,h=>by
  show S.add _ _=S.add _ _;rw[ax λi a=>h i (Nat.lt_succ_of_lt a),h n (Nat.lt_succ_self n)]
theorem hJ(f g:Nat->K):∀n,S.ca (λi=>S.add (f i) (g i)) n=S.add (S.ca f n) (S.ca g n)
 |0=>(S.zero_add _).symm
 |n+1=>by
  show S.add (S.ca _ n) _=S.add (S.add _ _) (S.add _ _);rw[hJ f g n,abe]
theorem qp(c:K)(f:Nat->K):∀n,S.ca (λi=>S.mul c (f i)) n=S.mul c (S.ca f n)
 |0=>(mul_zero c).symm
 |n+1=>by
  show S.add (S.ca _ n) _=S.mul c (S.add _ _);rw[qp c f n,S.mul_add]
theorem vG(c:K)(f:Nat->K)(n:Nat):S.ca (λi=>S.mul (f i) c) n=S.mul (S.ca f n) c:=by
 rw[S.mul_comm,<-qp];exact ax λi _=>S.mul_comm _ _
theorem ei:∀n,S.ca (λ_=>S.zero) n=S.zero
 |0=>rfl
 |n+1=>by
  show S.add (S.ca _ n) _=_;rw[ei n,S.zero_add]
theorem zB(f:Nat->Nat->K)(m:Nat):∀n,S.ca (λi=>S.ca (f i) m) n=S.ca (λj=>S.ca (λi=>f i j) n) m
 |0=>(ei m).symm
 |n+1=>by
  show S.add (S.ca _ n) _=_;rw[zB f m n,<-hJ];rfl
theorem WL{f g:Nat->K}:∀{n:Nat},(∀i,i<n->S.le (f i) (g i))->S.le (S.ca f n) (S.ca g n)
 |0,_=>S.le_refl _
 |n+1,h=>S.wY (WL λi a=>h i (Nat.lt_succ_of_lt a)) (h n (Nat.lt_succ_self n))
theorem le_of_eq{a b:K}(h:a=b):S.le a b:=h▸S.le_refl a
def elim{K:Type}(S:aP K)(a:Nat->Nat->K):Nat->Nat->Nat->K
 |0=>a
 |k+1=>λi j=>S.add (elim S a k i j) (S.mul (S.mul (elim S a k i k) (S.star (elim S a k k k))) (elim S a k k j))
theorem WE(a b:K):S.add b (S.mul (S.mul b (S.star a)) a)=S.mul b (S.star a):=by
 have h:S.mul b (S.add S.one (S.mul a (S.star a)))=S.mul b (S.star a):=by rw[S.zv]
 rw[S.mul_add,mul_one]at h;rw[S.mul_assoc,S.mul_comm (S.star a) a];exact h
theorem OJ(a:Nat->Nat->K):∀(k i j:Nat),elim S a k i j=S.add (a i j) (S.ca (λl=>S.mul (a i l) (elim S a k l j)) k)
 |0,i,j=>(add_zero _).symm
 | k+1,i,j=>by
  have b:=OJ a k;show S.add (elim S a k i j) _=S.add (a i j) (S.add (S.ca _ k) (S.mul (a i k) (elim S a (k+1) k j)));have d:S.ca (λl=>S.mul (a i l) (elim S a (k+1) l j)) k=S.add (S.ca (λl=>S.mul (a i l) (elim S a k l j)) k) (S.mul (S.ca (λl=>S.mul (a i l) (elim S a k l k)) k) (S.mul (S.star (elim S a k k k)) (elim S a k k j))):=by
   rw[<-vG,<-hJ];refine ax λl _=>?_;show S.mul (a i l) (S.add _ _)=_;rw[S.mul_add,S.mul_assoc,S.mul_assoc]
  have e:elim S a (k+1) k j=S.mul (S.star (elim S a k k k)) (elim S a k k j):=by
   show S.add (elim S a k k j) _=_;rw[S.mul_comm (elim S a k k k) _,S.mul_assoc];have h:=S.zv (elim S a k k k);have c:S.mul (S.add S.one (S.mul (elim S a k k k) (S.star (elim S a k k k)))) (elim S a k k j)=S.mul (S.star (elim S a k k k)) (elim S a k k j):=by rw[h]
   rw[add_mul,S.one_mul,S.mul_comm (elim S a k k k),S.mul_assoc]at c;exact c
  rw[d,e,S.add_assoc,<-S.add_assoc (a i j),<-b i j];congr 1;rw[<-add_mul,S.add_comm (S.ca _ _) (a i k),<-b i k,S.mul_assoc]
def pT(S:aP K)(a:Nat->Nat->K)(n:Nat)(c:Nat->K)(i:Nat):K:=S.add (c i) (S.ca (λj=>S.mul (elim S a n i j) (c j)) n)
theorem AT(a:Nat->Nat->K)(n:Nat)(c:Nat->K)(i:Nat):pT S a n c i=S.add (c i) (S.ca (λl=>S.mul (a i l) (pT S a n c l)) n):=by
 unfold pT;congr 1;have b:S.ca (λj=>S.mul (elim S a n i j) (c j)) n=S.add (S.ca (λj=>S.mul (a i j) (c j)) n) (S.ca (λj=>S.ca (λl=>S.mul (a i l) (S.mul (elim S a n l j) (c j))) n) n):=by
  rw[<-hJ];refine ax λj _=>?_;rw[OJ a n i j,add_mul,<-vG];congr 1;exact ax λl _=>S.mul_assoc _ _ _
 rw[b,zB,<-hJ];refine ax λl _=>?_;rw[S.mul_add,qp]
theorem oS{f:Nat->K}(k:Nat):∀{n:Nat},k<=n->S.ca f n=S.add (S.ca f k) (S.ca (λi=>f (k+i)) (n-k))
 |0,h=>by
  obtain rfl:k=0:=by omega
  exact(S.zero_add _).symm
 | n+1,h=>by
  by_cases e:k=n+1
  ·subst e;rw[Nat.sub_self];exact(add_zero _).symm
  ·have a:k<=n:=by omega
   rw[show n+1-k=(n-k)+1 by omega];show S.add (S.ca f n) (f n)=S.add _ (S.add _ (f (k+(n-k))));rw[oS k a,S.add_assoc,show k+(n-k)=n by omega]
theorem OK(a:Nat->Nat->K){n:Nat}{c x:Nat->K}(o:∀i,i<n->S.le (S.add (c i) (S.ca (λj=>S.mul (a i j) (x j)) n)) (x i)):∀(k:Nat),k<=n->∀i,i<n->S.le (S.add (c i) (S.ca (λj=>S.mul (elim S a k i j) (if j<k then c j else x j)) n)) (x i)
 |0,_,i,l=>by
  have h:=o i l;exact h
 | k+1,y,i,l=>by
  have d:=OK a o k (by omega);have p:k<n:=by omega
  have b:∀(g:Nat->K),S.ca g n=S.add (g k) (S.ca (λj=>if j=k then S.zero else g j) n):=λg=>by
   have w:∀m,S.ca g m=S.add (if k<m then g k else S.zero) (S.ca (λj=>if j=k then S.zero else g j) m):=λm=>by
    induction m with
    |zero=>rw[if_neg (Nat.not_lt_zero k)];exact(S.zero_add _).symm
    | succ m d=>
     show S.add (S.ca g m) (g m)=S.add _ (S.add (S.ca _ m) (if m=k then S.zero else g m));rw[d];by_cases e:m=k
     ·subst e;rw[if_neg (lt_irrefl m),if_pos (Nat.lt_succ_self m),if_pos rfl,S.zero_add,add_zero,S.add_comm]
     ·by_cases h:k<m
      ·rw[if_pos h,if_pos (by omega),if_neg e,S.add_assoc]
      ·rw[if_neg h,if_neg (by omega),if_neg e,S.add_assoc]
   grind
  let s:=S.star (elim S a k k k)
  let r:=S.add (c k) (S.ca (λj=>if j=k then S.zero else S.mul (elim S a k k j) (if j<k then c j else x j)) n)
  have t:S.le (S.mul s r) (x k):=by
   refine S.sS ?_;have h:=d k p;rw[b]at h;rw[if_neg (lt_irrefl k)]at h;refine S.le_trans (le_of_eq ?_) h;show S.add (S.add (c k) _) _=_;rw[S.add_assoc,S.add_comm (S.ca _ n)]
  have f:=d i l;rw[b]at f;rw[if_neg (lt_irrefl k)]at f;refine S.le_trans (le_of_eq ?_) (S.le_trans (S.wY (S.le_refl (c i)) (S.wY (S.H7 (elim S a k i k) t) (S.le_refl (S.ca (λj=>if j=k then S.zero else S.mul (elim S a k i j) (if j<k then c j else x j)) n)))) f);congr 1;rw[b];rw[if_pos (Nat.lt_succ_self k)];have q:S.mul (elim S a (k+1) i k) (c k)=S.mul (elim S a k i k) (S.mul s (c k)):=by
   show S.mul (S.add _ _) _=_;rw[WE,S.mul_assoc]
  have v:S.mul (elim S a k i k) (S.mul s r)=S.add (S.mul (elim S a k i k) (S.mul s (c k))) (S.ca (λj=>if j=k then S.zero else S.mul (S.mul (S.mul (elim S a k i k) s) (elim S a k k j)) (if j<k then c j else x j)) n):=by
   show S.mul _ (S.mul s (S.add _ _))=_;rw[S.mul_add,S.mul_add];congr 1;rw[<-S.mul_assoc,<-qp];refine ax λj _=>?_;by_cases e:j=k
   ·rw[if_pos e,if_pos e,mul_zero]
   ·rw[if_neg e,if_neg e,S.mul_assoc (S.mul _ s)]
  rw[q,v,S.add_assoc,<-hJ];congr 1;refine ax λj _=>?_;by_cases e:j=k
  ·rw[if_pos e,if_pos e,if_pos e,S.zero_add]
  ·rw[if_neg e,if_neg e,if_neg e];have u:(if j<k+1 then c j else x j)=if j<k then c j else x j:=by
    by_cases h:j<k
    ·grind
    ·grind
   rw[u];show S.mul (S.add _ _) _=_;rw[add_mul,S.add_comm]
theorem vC(a:Nat->Nat->K){n:Nat}{c x:Nat->K}(b:∀i,i<n->S.le (S.add (c i) (S.ca (λj=>S.mul (a i j) (x j)) n)) (x i)){i:Nat}(d:i<n):S.le (pT S a n c i) (x i):=by
 refine S.le_trans (le_of_eq ?_) (OK a b n (Nat.le_refl _) i d)
 simp_all[ax,pT]
end aP
end
end Go.Num
end
section
namespace Go.Num
inductive tq where
 |fin (q:Rat)
 |inf
 |low
namespace tq
def add:tq->tq->tq
 |low,_=>low
 |_,low=>low
 |inf,b=>b
 |a,inf=>a
 |fin p,fin q=>fin (if p<=q then p else q)
def mul:tq->tq->tq
 |inf,_=>inf
 |_,inf=>inf
 |low,_=>low
 |_,low=>low
 |fin p,fin q=>fin (p+q)
def star:tq->tq
 |inf=>fin 0
 |low=>low
 |fin p=>if 0<=p then fin 0 else low
def le:tq->tq->Prop
 |inf,_=>True
 |_,low=>True
 |fin p,fin q=>q<=p
 |_,_=>False
def S:aP tq where
 zero:=inf
 one:=fin 0
 add:=add
 mul:=mul
 star:=star
 le:=le
 add_assoc a b c:=by cases a<;>cases b<;>cases c<;>simp only[add]<;>(try rfl)<;>(grind)
 add_comm a b:=by cases a<;>cases b<;>simp only[add]<;>(grind)
 zero_add a:=by cases a<;>rfl
 mul_assoc a b c:=by cases a<;>cases b<;>cases c<;>simp only[mul]<;>(grind)
 mul_comm a b:=by cases a<;>cases b<;>simp only[mul]<;>(grind)
 one_mul a:=by cases a<;>simp only[mul]<;>(grind)
 zero_mul a:=by rfl
 mul_add a b c:=by cases a<;>cases b<;>cases c<;>simp only[mul,add]<;>(grind)
 le_refl a:=by cases a<;>simp only[le]<;>grind
 le_trans {a b c} e f:=by cases a<;>cases b<;>cases c<;>simp only[le]at*<;>grind
 Cs {a b} e f:=by cases a<;>cases b<;>simp only[le]at*<;>grind
 zero_le a:=by cases a<;>trivial
 wY {a b c d} e f:=by cases a<;>cases b<;>cases c<;>cases d<;>simp only[le,add]at*<;>grind
 H7 {a b} c h:=by cases a<;>cases b<;>cases c<;>simp only[le,mul]at*<;>grind
 zv a:=by
  cases a with
  |fin p=>grind[star,mul,add]
  |inf=>rfl
  |low=>rfl
 sS {a b x} h:=by
  cases a with
  |fin p=>
   simp only[star];split<;>cases b<;>cases x<;>simp only[mul,add,le]at*<;>grind
  |inf=>cases b<;>cases x<;>simp only[star,mul,add,le]at*<;>grind
  |low=>cases b<;>cases x<;>simp only[star,mul,add,le]at*<;>grind
end tq
end Go.Num
namespace Go.Num
inductive gr where
 |fin (q:Rat) (h:0<=q)
 |inf
namespace gr
theorem ext{p q:Rat}{h:0<=p}{a:0<=q}(e:p=q):fin p h=fin q a:=by grind
def mul:gr->gr->gr
 |fin p b,fin q a=>fin (p*q) (Rat.mul_nonneg b a)
 |fin p b,inf=>if p=0 then fin 0 (by grind)else inf
 |inf,fin q a=>if q=0 then fin 0 (by grind)else inf
 |inf,inf=>inf
def add:gr->gr->gr
 |fin p b,fin q a=>fin (p+q) (by grind)
 |_,_=>inf
def le:gr->gr->Prop
 |_,inf=>True
 |fin p _,fin q _=>p<=q
 |inf,fin _ _=>False
theorem inv_pos{p:Rat}(h:p<1):0<=(1-p)⁻¹:=by grind[Rat.inv_pos]
def star:gr->gr
 |inf=>inf
 |fin p _=>if h:p<1 then fin (1-p)⁻¹ (inv_pos h)else inf
theorem afG{p q:Rat}:p*q=0↔p=0\/q=0:=by grind
theorem M4(a b c:gr):mul (mul a b) c=mul a (mul b c):=by
 cases a with
 | fin p f=>
  cases b with
  |fin q e=>
   cases c with
   |fin r d=>exact ext (Rat.mul_assoc p q r)
   |inf=>grind[mul]
  |inf=>
   cases c with
   |fin r d=>grind[mul]
   |inf=>grind[mul]
 | inf=>
  cases b with
  |fin q e=>
   cases c with
   |fin r d=>grind[mul]
   |inf=>grind[mul]
  |inf=>
   cases c with
   |fin r d=>grind[mul]
   |inf=>rfl
theorem Gz(a b:gr):mul a b=mul b a:=by
 cases a<;>cases b<;>simp only[mul]
 simp[Rat.mul_comm]
theorem Vb(a:gr):mul (fin 1 (by grind)) a=a:=by
 cases a with
 |fin p b=>exact ext (Rat.one_mul p)
 |inf=>rfl
theorem Be(a:gr):mul (fin 0 (by grind)) a=fin 0 (by grind):=by
 cases a with
 |fin p b=>exact ext (Rat.zero_mul p)
 |inf=>rfl
theorem U2(a b c:gr):mul a (add b c)=add (mul a b) (mul a c):=by
 cases a with
 |fin p e=>
  cases b<;>cases c<;>simp only[mul,add]
  ·exact ext (Rat.mul_add _ _ _)
  all_goals grind
 | inf=>
  cases b with
  |fin q d=>
   cases c with
   |fin r f=>grind[mul,add]
   |inf=>grind[mul,add]
  |inf=>rfl
theorem OT{a b:gr}(c:gr)(h:le a b):le (mul c a) (mul c b):=by
 cases c with
 | fin p i=>
  cases a with
  | fin q g=>
   cases b with
   |fin r d=>exact Rat.mul_le_mul_of_nonneg_left h i
   |inf=>
    simp only[mul];by_cases e:p=0
    all_goals simp_all[le]
  |inf=>
   cases b with
   |fin r d=>exact h.elim
   |inf=>grind[mul,le]
 | inf=>
  cases a with
  | fin q g=>
   cases b with
   | fin r d=>
    have h:q<=r:=h;simp only[mul];by_cases f:r=0
    ·have:q=0:=by grind
     simp[f,this,le]
    simp_all[le]
   |inf=>simp[mul,le]
  |inf=>
   cases b with
   |fin r d=>exact h.elim
   |inf=>simp[mul,le]
theorem inv_eq{p:Rat}(h:p<1):1+p*(1-p)⁻¹=(1-p)⁻¹:=by grind
theorem QF{p b x:Rat}(h:p<1)(e:b+p*x<=x):(1-p)⁻¹*b<=x:=by
 have a:(1-p)⁻¹*(1-p)=1:=Rat.inv_mul_cancel _ (by grind);have c:b<=(1-p)*x:=by grind
 have d:=Rat.mul_le_mul_of_nonneg_left c (inv_pos h);have f:(1-p)⁻¹*((1-p)*x)=x:=by rw[<-Rat.mul_assoc,a,Rat.one_mul]
 grind
def S:aP gr where
 zero:=fin 0 (by grind)
 one:=fin 1 (by grind)
 add:=add
 mul:=mul
 star:=star
 le:=le
 add_assoc a b c:=by
  cases a<;>cases b<;>cases c<;>simp only[add]
  grind
 add_comm a b:=by
  cases a<;>cases b<;>simp only[add]
  grind
 zero_add a:=by
  cases a with
  |fin p i=>exact ext (Rat.zero_add p)
  |inf=>rfl
 mul_assoc:=M4
 mul_comm:=Gz
 one_mul:=Vb
 zero_mul:=Be
 mul_add:=U2
 le_refl a:=by cases a<;>simp only[le]<;>grind
 le_trans {a b c} f g:=by cases a<;>cases b<;>cases c<;>simp only[le]at*<;>grind
 Cs {a b} f g:=by
  cases a<;>cases b<;>simp only[le]at*
  grind
 zero_le a:=by cases a<;>simp only[le]<;>assumption
 wY {a b c d} f g:=by cases a<;>cases b<;>cases c<;>cases d<;>simp only[le,add]at*<;>grind
 H7 {a b} c h:=OT c h
 zv a:=by
  cases a with
  |fin p i=>
   simp only[star];split
   ·next h=>exact ext (inv_eq h)
   grind[mul,add]
  |inf=>rfl
 sS {a b x} h:=by
  cases x with
  |inf=>grind[le]
  | fin r j=>
   cases b with
   |inf=>exact h.elim
   | fin q k=>
    cases a with
    | fin p i=>
     have h:q+p*r<=r:=h;simp only[star];split
     ·next f=>exact QF f h
     ·next f=>
      have g:r<=p*r:=by
       have:=Rat.mul_le_mul_of_nonneg_right (show(1:Rat)<=p by grind) j
       grind
      grind[mul,le]
    | inf=>
     simp only[star,mul]at*;by_cases e:r=0
     ·subst e;simp only[if_pos rfl]at h;have h:q+0<=0:=h
      grind[le]
     ·rw[if_neg e]at h;exact h.elim
def max:gr->gr->gr
 |fin p b,fin q a=>fin (if p<=q then q else p) (by grind)
 |_,_=>inf
def uK:gr->gr
 |inf=>inf
 |fin p _=>if p<=1 then fin 1 (by grind)else inf
theorem OR{a b:gr}(h:le a b):max a b=b:=by
 cases a<;>cases b<;>simp only[le,max]at*
 grind
theorem UX{a b:gr}(h:le b a):max a b=a:=by
 cases a<;>cases b<;>simp only[le,max]at*
 grind
theorem Xj(a b:gr):le a b\/le b a:=by cases a<;>cases b<;>simp only[le]<;>grind
def V:aP gr:={ S with
 add:=max
 star:=uK
 add_assoc:=λa b c=>by cases a<;>cases b<;>cases c<;>simp only[max]<;>exact ext (by grind)
 add_comm:=λa b=>by cases a<;>cases b<;>simp only[max]<;>exact ext (by grind)
 zero_add:=λa=>OR (S.zero_le a)
 mul_add:=λa b c=>by
  show mul a (max b c)=max (mul a b) (mul a c)
  grind[Xj,OR,OT,UX]
 wY:=λ{a b c d} i m=>by cases a<;>cases b<;>cases c<;>cases d<;>simp only[S,le,max]at*<;>grind
 zv:=λa=>by
  show max (fin 1 (by grind)) (mul a (uK a))=uK a
  cases a with
  |fin p k=>
   simp only[uK];split
   ·next h=>exact ext (by grind)
   grind[mul,max]
  |inf=>rfl
 sS:=λ{a b x} h=>by
  have h:le (max b (mul a x)) x:=h;show le (mul (uK a) b) x;have g:le b x:=by
   refine S.le_trans (?_:le b (max b (mul a x))) h;rcases Xj b (mul a x)with e|e
   ·grind[OR]
   ·rw[UX e];exact S.le_refl b
  have f:le (mul a x) x:=by
   refine S.le_trans (?_:le (mul a x) (max b (mul a x))) h;rcases Xj b (mul a x)with e|e
   ·rw[OR e];exact S.le_refl _
   ·grind[UX]
  cases x with
  |inf=>grind[le]
  | fin r o=>
   cases b with
   |inf=>exact g.elim
   | fin q l=>
    have g:q<=r:=g
    cases a with
    | fin p k=>
     have f:p*r<=r:=f;simp only[uK];split
     ·next i=>
      show 1*q<=r
      grind
     ·next i=>
      have:r=0:=by
       refine Classical.byContradiction λc=>?_;have j:0<r:=by grind
       have n:=Rat.mul_lt_mul_of_pos_right (show(1:Rat)<p by grind) j
       grind
      grind[mul]
    |inf=>
     simp only[mul]at f;by_cases e:r=0
     ·grind[uK,mul]
     ·rw[if_neg e]at f;exact f.elim }
end gr
end Go.Num
end
section
namespace Go.Num
variable{z:Int}
abbrev dq:List UInt8:=[105,110,102]
abbrev iC:List UInt8:=[45,105,110,102]
def aJ(b:Int)(a:List UInt8):Bool:=decide (1<=b/\b<=3)&&(a==[105,110,102]||a==[45,105,110,102]&&b==1||ay a&&(b==1||decide (0<=cI a [48])))
def bJ(a:Int):List UInt8:=if a=1 then dq else[48]
def tg(a:Int):List UInt8:=if a=1 then[48]else[49]
def dB(a b:List UInt8):Int:=if a=b then 0 else if a=iC\/b=dq then -1 else if a=dq\/b=iC then 1 else cI a b
def Hp(c:Int)(a b:List UInt8):Int:=if c=1 then dB a b else dB b a
def eR(c:Int)(a b:List UInt8):Option (List UInt8):=if c≠2 then some (if Hp c b a<0 then b else a)else if a=dq\/b=dq then some dq else oX a b
def cJ(c:Int)(a b:List UInt8):Option (List UInt8):=if a=bJ c\/b=bJ c then some (bJ c)else if a=dq\/b=dq then some dq else if a=iC\/b=iC then some iC else if c=1 then oX a b else zS a b
def lZ(b:Int)(a:List UInt8):Option (List UInt8):=if b=1 then(if dB a [48]>=0 then some [48]else some iC)else if b=3 then(if dB a [49]<=0 then some [49]else some dq)else if dB a [49]>=0 then some dq else match oX [49] (qx a)with
 |some d=>Hr [49] d
 |none=>none
def CR(a:List UInt8):tq:=if a=dq then .inf else if a=iC then .low else .fin (bh a)
noncomputable def ll(a:List UInt8):gr:=if a=dq then .inf else if h:0<=bh a then .fin (bh a) h else .inf
structure te{K:Type}(S:aP K)(dec:List UInt8->K)(kind:Int):Prop where
 zero:dec (bJ kind)=S.zero
 one:dec (tg kind)=S.one
 inj:∀{a b:List UInt8},aJ kind a=true->aJ kind b=true->dec a=dec b->a=b
 plus:∀{a b c:List UInt8},aJ kind a=true->aJ kind b=true->eR kind a b=some c->aJ kind c=true/\dec c=S.add (dec a) (dec b)
 times:∀{a b c:List UInt8},aJ kind a=true->aJ kind b=true->cJ kind a b=some c->aJ kind c=true/\dec c=S.mul (dec a) (dec b)
 star:∀{a c:List UInt8},aJ kind a=true->lZ kind a=some c->aJ kind c=true/\dec c=S.star (dec a)
theorem fJ:ay [49]=true:=by decide
theorem fK:bh [48]=0:=by rfl
theorem lr:bh [49]=1:=by rfl
theorem ch{a:List UInt8}(h:ay a=true):a≠dq/\a≠iC:=by
 constructor<;>intro e<;>rw[e]at h<;>exact absurd h (by decide)
theorem gQ{a:List UInt8}(h:aJ z a=true):z=1\/z=2\/z=3:=by
 unfold aJ at h
 grind
theorem ng{a:List UInt8}:aJ 1 a=true↔a=dq\/a=iC\/ay a=true:=by simp_all[or_assoc,aJ]
theorem SZ{a:List UInt8}(h:ay a=true):0<=cI a [48]↔0<=bh a:=by
 have:=(pV h eA).1
 grind[fK]
theorem iF(d:z=2\/z=3){a:List UInt8}:aJ z a=true↔a=dq\/(ay a=true/\0<=bh a):=by
 have b:decide (1<=z/\z<=3)=true:=by simp;omega
 have c:(z==1)=false:=by rcases d with rfl|rfl<;>rfl
 unfold aJ;rw[b,c,Bool.true_and,Bool.and_false,Bool.or_false,Bool.false_or,Bool.or_eq_true,Bool.and_eq_true,beq_iff_eq,decide_eq_true_eq]
 grind[SZ]
theorem dw{a:List UInt8}(h:ay a=true):CR a = .fin (bh a):=by simp_all[ch,CR]
theorem oZ:CR dq = .inf:=by rfl
theorem mG:CR iC = .low:=by rfl
theorem dn{a:List UInt8}(h:ay a=true)(b:0<=bh a):ll a = .fin (bh a) b:=by simp_all[ch,ll]
theorem jA:ll dq = .inf:=by rfl
theorem rH{a b:List UInt8}(d:ay a=true)(c:ay b=true):(dB a b<0↔bh a<bh b)/\(dB a b=0↔bh a=bh b):=by
 obtain⟨f,g⟩:=pV d c;unfold dB;by_cases e:a=b
 all_goals simp_all[ch]
theorem zQ{a b:List UInt8}(d:ay a=true)(c:ay b=true):dB a b>=0↔bh b<=bh a:=by
 have:=(rH d c).1
 grind
theorem Ps{a b:List UInt8}(d:ay a=true)(c:ay b=true):dB a b<=0↔bh a<=bh b:=by
 obtain⟨e,f⟩:=rH d c
 grind
theorem aa8:te tq.S CR 1 where
 zero:=oZ
 one:=by rfl
 inj:=λ{a b} d f e=>by grind[ng,oZ,mG,dw,wT]
 plus:=λ{a b c} d f e=>by
  have e:some (if dB b a<0 then b else a)=some c:=e;obtain rfl:=oI e;refine⟨by grind,?_⟩;rcases ng.1 d with rfl|rfl|d<;>rcases ng.1 f with rfl|rfl|f
  ·rfl
  ·rfl
  ·have:dB b dq = -1:=by unfold dB;rw[if_neg (ch f).1,if_pos (.inr rfl)]
   rw[this,if_pos (by omega),oZ,dw f];rfl
  ·rfl
  ·rfl
  ·have:dB b iC=1:=by unfold dB;rw[if_neg (ch f).2,if_neg (λc=>c.elim (ch f).2 (by decide)),if_pos (.inr rfl)]
   rw[this,if_neg (by omega),mG,dw f];rfl
  ·have:dB dq a=1:=by unfold dB;rw[if_neg (λe=>(ch d).1 e.symm),if_neg (λc=>c.elim (by decide) (ch d).1),if_pos (.inl rfl)]
   rw[this,if_neg (by omega),oZ,dw d];rfl
  ·have:dB iC a = -1:=by unfold dB;rw[if_neg (λe=>(ch d).2 e.symm),if_pos (.inl rfl)]
   rw[this,if_pos (by omega),mG,dw d];rfl
  ·have h:=(rH f d).1;rw[dw d,dw f];show _=tq.fin (if bh a<=bh b then bh a else bh b);by_cases c:dB b a<0
   ·rw[if_pos c,dw f,if_neg (Rat.not_le.2 (h.1 c))]
   ·rw[if_neg c,dw d,if_pos (Rat.not_lt.1 λx=>c (h.2 x))]
 times:=λ{a b c} d f e=>by
  unfold cJ at e;rw[show bJ 1=dq from rfl]at e;rcases ng.1 d with rfl|rfl|d
  ·rw[if_pos (.inl rfl)]at e;obtain rfl:=oI e;refine⟨d,?_⟩;rfl
  ·rcases ng.1 f with rfl|rfl|f
   ·rw[if_pos (.inr rfl)]at e;obtain rfl:=oI e;exact⟨f,by rfl⟩
   ·rw[if_neg (by decide),if_neg (by decide),if_pos (.inl rfl)]at e;obtain rfl:=oI e;exact⟨f,by rfl⟩
   ·rw[if_neg (λc=>c.elim (by decide) (ch f).1),if_neg (λc=>c.elim (by decide) (ch f).1),if_pos (.inl rfl)]at e;obtain rfl:=oI e;exact⟨d,by rw[mG,dw f];rfl⟩
  ·rcases ng.1 f with rfl|rfl|f
   ·rw[if_pos (.inr rfl)]at e;obtain rfl:=oI e;exact⟨f,by rw[oZ,dw d];rfl⟩
   ·rw[if_neg (λc=>c.elim (ch d).1 (by decide)),if_neg (λc=>c.elim (ch d).1 (by decide)),if_pos (.inr rfl)]at e;obtain rfl:=oI e;exact⟨f,by rw[mG,dw d];rfl⟩
   ·rw[if_neg (λc=>c.elim (ch d).1 (ch f).1),if_neg (λc=>c.elim (ch d).1 (ch f).1),if_neg (λc=>c.elim (ch d).2 (ch f).2),if_pos rfl]at e;obtain⟨i,j⟩:=nw d f e;exact⟨ng.2 (.inr (.inr i)),by rw[dw d,dw f,dw i,j];rfl⟩
 star:=λ{a c} d e=>by
  unfold lZ at e;rw[if_pos rfl]at e;rcases ng.1 d with rfl|rfl|d
  ·rw[if_pos (by decide)]at e;obtain rfl:=oI e;exact⟨by decide,by rfl⟩
  ·rw[if_neg (by decide)]at e;obtain rfl:=oI e;exact⟨by decide,by rfl⟩
  ·have h:=zQ d eA;rw[fK]at h;rw[dw d];show _/\_=if 0<=bh a then tq.fin 0 else tq.low;by_cases g:dB a [48]>=0
   ·rw[if_pos g]at e;obtain rfl:=oI e;exact⟨by decide,by rw[if_pos (h.1 g),dw eA,fK]⟩
   ·rw[if_neg g]at e;obtain rfl:=oI e;exact⟨by decide,by rw[if_neg λx=>g (h.2 x),mG]⟩
theorem CP(f:z=2\/z=3){a b:List UInt8}(d:aJ z a=true)(c:aJ z b=true)(e:ll a=ll b):a=b:=by grind[iF,jA,dn,wT]
theorem F7(a:z=2\/z=3):aJ z dq=true:=by grind[iF]
theorem xV(g:z=2\/z=3){a b c:List UInt8}(j:aJ z a=true)(k:aJ z b=true)(e:cJ z a b=some c):aJ z c=true/\ll c=gr.mul (ll a) (ll b):=by
 have v:bJ z=[48]:=by rcases g with rfl|rfl<;>rfl
 have t:¬z=1:=by omega
 have l:aJ z [48]=true:=(iF g).2 (.inr ⟨eA,by rfl⟩);have r:ll [48] = .fin 0 Rat.le_refl:=by rw[dn eA (by rfl)];exact gr.ext fK
 unfold cJ at e;rw[v]at e;have w:∀{x:List UInt8},ay x=true->x≠[48]->bh x≠0:=λs u e=>u (wT s eA (by rw[e,fK]));by_cases q:a=[48]
 ·subst q;rw[if_pos (.inl rfl)]at e;obtain rfl:=oI e;exact⟨l,by rw[r];simp[gr.Be]⟩
 by_cases o:b=[48]
 ·subst o;rw[if_pos (.inr rfl)]at e;obtain rfl:=oI e;exact⟨l,by rw[gr.Gz,r];simp[gr.Be]⟩
 rw[if_neg (λx=>x.elim q o)]at e;rcases(iF g).1 j with rfl|⟨f,h⟩<;>rcases(iF g).1 k with rfl|⟨d,i⟩
 ·rw[if_pos (.inl rfl)]at e;obtain rfl:=oI e;exact⟨j,by rfl⟩
 ·rw[if_pos (.inl rfl)]at e;obtain rfl:=oI e;refine⟨j,?_⟩;rw[jA,dn d i];show _=if bh b=0 then _ else _
  grind
 ·rw[if_pos (.inr rfl)]at e;obtain rfl:=oI e;refine⟨k,?_⟩;rw[jA,dn f h];show _=if bh a=0 then _ else _
  grind
 ·rw[if_neg (λc=>c.elim (ch f).1 (ch d).1),if_neg (λc=>c.elim (ch f).2 (ch d).2),if_neg t]at e;obtain⟨n,m⟩:=Bk f d e;have p:0<=bh c:=by rw[m];exact Rat.mul_nonneg h i
  refine⟨(iF g).2 (.inr ⟨n,p⟩),?_⟩;rw[dn f h,dn d i,dn n p];exact gr.ext m
theorem Bf:ll [48]=gr.S.zero:=by rfl
theorem CQ:ll [49]=gr.S.one:=by rfl
theorem qW(b:z=2\/z=3){a:List UInt8}(h:ay a=true)(c:0<=bh a):aJ z a=true:=by grind[iF]
theorem qV(a:z=2\/z=3):aJ z [49]=true:=qW a fJ (by rfl)
theorem aa7:te gr.S ll 2 where
 zero:=Bf
 one:=CQ
 inj:=CP (.inl rfl)
 times:=xV (.inl rfl)
 plus:=λ{a b c} k o e=>by
  unfold eR at e;rw[if_neg (by decide)]at e;rcases(iF (.inl rfl)).1 k with rfl|⟨f,l⟩
  ·rw[if_pos (.inl rfl)]at e;obtain rfl:=oI e;exact⟨k,by rfl⟩
  rcases(iF (.inl rfl)).1 o with rfl|⟨m,q⟩
  ·rw[if_pos (.inr rfl)]at e;obtain rfl:=oI e;exact⟨o,by rw[jA];cases ll a<;>rfl⟩
  rw[if_neg (λc=>c.elim (ch f).1 (ch m).1)]at e;obtain⟨j,i⟩:=nw f m e;have n:0<=bh c:=by rw[i];exact Rat.add_nonneg l q
  refine⟨qW (.inl rfl) j n,?_⟩;rw[dn f l,dn m q,dn j n];exact gr.ext i
 star:=λ{a c} k e=>by
  unfold lZ at e;rw[if_neg (by decide),if_neg (by decide)]at e;rcases(iF (.inl rfl)).1 k with rfl|⟨f,l⟩
  ·rw[if_pos (by decide)]at e;obtain rfl:=oI e;exact⟨k,by rfl⟩
  have h:=zQ f fJ;rw[lr]at h;rw[dn f l];show _/\_=if h:bh a<1 then gr.fin (1-bh a)⁻¹ _ else gr.inf;by_cases g:dB a [49]>=0
  ·rw[if_pos g]at e;obtain rfl:=oI e
   simp_all[F7,Rat.not_lt,jA]
  ·rw[if_neg g]at e;have u:bh a<1:=Rat.not_le.1 λx=>g (h.2 x);rw[dif_pos u]
   cases p:oX [49] (qx a)with
   |none=>grind
   | some d=>
    rw[p]at e;dsimp only at e;obtain⟨s,t⟩:=uV f;obtain⟨j,i⟩:=nw fJ s p;rw[t,lr]at i;have r:bh d=1-bh a:=by rw[i,Rat.sub_eq_add_neg]
    have v:val (numOf d)≠0:=λe=>by
     have:=(aW.1 j).xm;rw[e,rM]at this;have:=Rat.num_eq_zero.1 this;rw[r]at this
     grind
    obtain⟨n,w⟩:=Ji fJ j v e;rw[lr,Rat.one_mul,r]at w
    grind[qW,dn]
theorem aa9:te gr.V ll 3 where
 zero:=Bf
 one:=CQ
 inj:=CP (.inr rfl)
 times:=xV (.inr rfl)
 plus:=λ{a b c} j l e=>by
  have e:some (if dB a b<0 then b else a)=some c:=e;obtain rfl:=oI e;refine⟨by grind,?_⟩;rcases(iF (.inr rfl)).1 j with rfl|⟨d,i⟩<;>rcases(iF (.inr rfl)).1 l with rfl|⟨f,k⟩
  ·rfl
  ·have:dB dq b=1:=by unfold dB;rw[if_neg (λe=>(ch f).1 e.symm),if_neg (λc=>c.elim (by decide) (ch f).1),if_pos (.inl rfl)]
   rw[this,if_neg (by omega),jA];rfl
  ·have:dB a dq = -1:=by unfold dB;rw[if_neg (ch d).1,if_pos (.inr rfl)]
   rw[this,if_pos (by omega),jA];cases ll a<;>rfl
  ·have h:=(rH d f).1;rw[dn d i,dn f k];show _=gr.fin (if bh a<=bh b then bh b else bh a) _;by_cases c:dB a b<0
   ·rw[if_pos c,dn f k]
    grind
   ·rw[if_neg c,dn d i]
    grind
 star:=λ{a c} j e=>by
  unfold lZ at e;rw[if_neg (by decide),if_pos rfl]at e;rcases(iF (.inr rfl)).1 j with rfl|⟨d,i⟩
  ·rw[if_neg (by decide)]at e;obtain rfl:=oI e;exact⟨j,by rfl⟩
  have h:=Ps d fJ;rw[lr]at h;rw[dn d i];show _/\_=if bh a<=1 then gr.fin 1 _ else gr.inf;by_cases g:dB a [49]<=0
  ·rw[if_pos g]at e;obtain rfl:=oI e;exact⟨qV (.inr rfl),by rw[if_pos (h.1 g),dn fJ (by rw[lr];decide)];rfl⟩
  ·rw[if_neg g]at e;obtain rfl:=oI e
   simp_all[F7,jA]
theorem xZ{kind:Int}(h:1<=kind/\kind<=3):∃(K:Type)(S:aP K)(a:List UInt8->K),te S a kind:=by
 obtain rfl|rfl|rfl:kind=1\/kind=2\/kind=3:=by omega
 all_goals grind[aa8,aa7,aa9]
section
structure qw(α:Type) where
 zero:α
 one:α
 yC:α->Bool
 plus:α->α->Option α
 times:α->α->Option α
 star:α->Option α
def bg{β:Type}(f:β->Nat->Option β):Nat->Nat->β->Option β
 |0,_,b=>some b
 |k+1,i,b=>match f b i with
  |some a=>bg f k (i+1) a
  |none=>none
structure jy(α:Type) where
 i:Int
 o:Int
 w:α
 t:Nat
structure Jd(α:Type) where
 fin:Option α
 arcs:List (jy α)
structure gC(α:Type) where
 lead:α
 start:Nat
 bP:List (Jd α)
section
variable {α:Type} (O:qw α)
def gP(l:List α)(t:Nat)(a b:α):Option (List α):=match O.times a b with
 |none=>none
 |some p=>match O.plus (l.getD t O.zero) p with
  |none=>none
  |some s=>some (l.set t s)
def bE(n:Nat):List α:=List.replicate n O.zero
def ct:jy α:=⟨0,0,O.zero,0⟩
def dU:Jd α:=⟨none,[]⟩
def jZ(i o:Int)(u:α)(a:List (jy α))(l:List α)(k:Nat):Option (List α):=
 if(a.getD k (ct O)).i≠i\/(a.getD k (ct O)).o≠o then some l else gP O l (a.getD k (ct O)).t u (a.getD k (ct O)).w
def qU(M:gC α)(v:List α)(i o:Int)(l:List α)(q:Nat):Option (List α):=
 if O.yC (v.getD q O.zero)then some l else bg (jZ O i o (v.getD q O.zero) (M.bP.getD q dU).arcs) (M.bP.getD q dU).arcs.length 0 l
def k9(M:gC α)(v:List α)(i o:Int):Option (List α):=bg (qU O M v i o) M.bP.length 0 (bE O M.bP.length)
def ye(a b:List α)(l:List α)(i:Nat):Option (List α):=match O.plus (a.getD i O.zero) (b.getD i O.zero)with
 |none=>none
 |some s=>some (l++[s])
def nX(a b:List α):Option (List α):=bg (ye O a b) a.length 0 []
def fo(a:List (jy α))(l:List α)(k:Nat):Option (List α):=
 if(a.getD k (ct O)).i≠0\/(a.getD k (ct O)).o≠0 then some l else match O.plus (l.getD (a.getD k (ct O)).t O.zero) (a.getD k (ct O)).w with
  |none=>none
  |some s=>some (l.set (a.getD k (ct O)).t s)
def hH(M:gC α)(A:List (List α))(q:Nat):Option (List (List α)):=match bg (fo O (M.bP.getD q dU).arcs) (M.bP.getD q dU).arcs.length 0 (bE O M.bP.length)with
 |none=>none
 |some r=>some (A++[r])
def oY(M:gC α):Bool:=M.bP.any λs=>s.arcs.any λa=>decide (a.i=0)&&decide (a.o=0)
def bW(B:List (List α))(i j:Nat):α:=(B.getD i []).getD j O.zero
def cF(B:List (List α))(s:α)(k i:Nat)(r:List α)(j:Nat):Option (List α):=
 if O.yC (bW O B i k)||O.yC (bW O B k j)then some (r++[bW O B i j])else match O.times (bW O B i k) s with
  |none=>none
  | some p=>match O.times p (bW O B k j)with
   |none=>none
   |some a=>match O.plus (bW O B i j) a with
    |none=>none
    |some c=>some (r++[c])
def jb(B:List (List α))(s:α)(k:Nat)(C:List (List α))(i:Nat):Option (List (List α)):=match bg (cF O B s k i) B.length 0 []with
 |none=>none
 |some r=>some (C++[r])
def fz(B:List (List α))(k:Nat):Option (List (List α)):=match O.star (bW O B k k)with
 |none=>none
 |some s=>bg (jb O B s k) B.length 0 []
def ou(B:List (List α))(i:Nat):Option (List (List α)):=match O.plus O.one (bW O B i i)with
 |none=>none
 |some s=>some (B.set i ((B.getD i []).set i s))
def jY(A:List (List α)):Option (List (List α)):=match bg (fz O) A.length 0 A with
 |none=>none
 |some B=>bg (ou O) A.length 0 B
def ee(M:gC α):Option (Option (List (List α))):=match bg (hH O M) M.bP.length 0 []with
 |none=>none
 | some A=>if oY M then(if 60<M.bP.length then none else match jY O A with
   |none=>none
   |some B=>some (some B))else some none
def fX(v:List α)(B:List (List α))(q:Nat)(l:List α)(p:Nat):Option (List α):=
 if O.yC (v.getD q O.zero)||O.yC (bW O B q p)then some l else gP O l p (v.getD q O.zero) (bW O B q p)
def gk(v:List α):Option (List (List α))->Option (List α)
 |none=>some v
 |some B=>bg (λl q=>bg (fX O v B q) v.length 0 l) v.length 0 (bE O v.length)
def jW(M:gC α)(v:List α)(l:List α)(q:Nat):Option (List α):=match (M.bP.getD q dU).fin with
 |none=>some l
 |some f=>gP O l 0 (v.getD q O.zero) f
def o0(M:gC α)(v:List α):Option α:=match bg (jW O M v) v.length 0 [O.zero]with
 |none=>none
 |some l=>some (l.getD 0 O.zero)
def dS(T:List (List (List α)))(i j:Nat):List α:=(T.getD i []).getD j []
def fA(T:List (List (List α)))(i j:Nat)(v:List α):List (List (List α)):=T.set i ((T.getD i []).set j v)
def bT(x:List Int)(i b:Nat):Int:=if b=1 then x.getD i 0 else 0
def pa(M:gC α)(x y:List Int)(v:List α)(i j:Nat)(T:List (List (List α)))(k:Nat):Option (List (List (List α))):=
 if x.length<i+k%2\/y.length<j+k/2 then some T else match k9 O M v (bT x i (k%2)) (bT y j (k/2))with
  |none=>none
  |some s=>match nX O (dS T (i+k%2) (j+k/2)) s with
   |none=>none
   |some r=>some (fA T (i+k%2) (j+k/2) r)
def nf(M:gC α)(B:Option (List (List α)))(x y:List Int)(i:Nat)(T:List (List (List α)))(j:Nat):Option (List (List (List α))):=match gk O (dS T i j) B with
 |none=>none
 |some v=>bg (pa O M x y v i j) 3 1 (fA T i j v)
def rL(M:gC α)(B:Option (List (List α)))(x y:List Int)(T:List (List (List α)))(i:Nat):Option (List (List (List α))):=bg (nf O M B x y i) (y.length+1) 0 T
def kE(M:gC α)(x y:List Int):List (List (List α)):=fA (List.replicate (x.length+1) (List.replicate (y.length+1) (bE O M.bP.length))) 0 0 ((bE O M.bP.length).set M.start M.lead)
def eK(M:gC α)(x y:List Int):Option α:=match ee O M with
 |none=>none
 |some B=>match bg (rL O M B x y) (x.length+1) 0 (kE O M x y)with
  |none=>none
  |some T=>o0 O M (dS T x.length y.length)
end
structure Hl{α β:Type}(O:qw α)(P:qw β)(V:α->Prop)(h:α->β):Prop where
 zero:V O.zero/\h O.zero=P.zero
 one:V O.one/\h O.one=P.one
 yC:∀{a},V a->P.yC (h a)=O.yC a
 plus:∀{a b c},V a->V b->O.plus a b=some c->V c/\P.plus (h a) (h b)=some (h c)
 times:∀{a b c},V a->V b->O.times a b=some c->V c/\P.times (h a) (h b)=some (h c)
 star:∀{a c},V a->O.star a=some c->V c/\P.star (h a)=some (h c)
theorem eJ{β j:Type}{H:β->j}{VB:β->Prop}{f:β->Nat->Option β}{g:j->Nat->Option j}(l:∀b i a,VB b->f b i=some a->VB a/\g (H b) i=some (H a)):∀(k i:Nat)(b a:β),VB b->bg f k i b=some a->VB a/\bg g k i (H b)=some (H a)
 |0,i,b,a,d,h=>by
  obtain rfl:=oI h;exact⟨d,rfl⟩
 | k+1,i,b,a,d,h=>by
  unfold bg at h⊢
  cases e:f b i with
  |none=>grind
  |some c=>
   rw[e]at h;obtain⟨m,n⟩:=l b i c d e;rw[n];exact eJ l k (i+1) c a m h
def mapA{α β:Type}(h:α->β)(a:jy α):jy β:=⟨a.i,a.o,h a.w,a.t⟩
def nW{α β:Type}(h:α->β)(s:Jd α):Jd β:=⟨s.fin.map h,s.arcs.map (mapA h)⟩
def mapM{α β:Type}(h:α->β)(M:gC α):gC β:=⟨h M.lead,M.start,M.bP.map (nW h)⟩
def br{α:Type}(V:α->Prop)(l:List α):Prop:=∀a∈l,V a
structure CJ{α:Type}(V:α->Prop)(M:gC α):Prop where
 lead:V M.lead
 fin:∀s∈M.bP,∀f,s.fin=some f->V f
 w:∀s∈M.bP,∀a∈s.arcs,V a.w
section
variable {α β:Type} {O:qw α} {P:qw β} {V:α->Prop} {h:α->β}
theorem tI(l:List α)(i:Nat)(d:α):(l.map h).getD i (h d)=h (l.getD i d):=by grind
theorem o9{l:List α}(b:br V l){d:α}(c:V d)(i:Nat):V (l.getD i d):=by
 rw[gD]
 cases e:l[i]? with
 |none=>grind
 |some a=>exact b a (List.mem_of_getElem? e)
theorem br.set{l:List α}(b:br V l){a:α}(d:V a)(i:Nat):br V (l.set i a):=λx c=>by
 rcases List.mem_or_eq_of_mem_set c with h|h
 ·exact b x h
 grind
theorem br.snoc{l:List α}(b:br V l){a:α}(d:V a):br V (l++[a]):=λx c=>by
 rcases mem_append.1 c with h|h
 ·exact b x h
 grind
theorem br.rep{a:α}(c:V a)(n:Nat):br V (List.replicate n a):=λx b=>by grind
variable (H:Hl O P V h)
include H
theorem Hl.getD(l:List α)(i:Nat):(l.map h).getD i P.zero=h (l.getD i O.zero):=by rw[<-H.zero.2];grind
theorem Hl.at_{l:List α}(a:br V l)(i:Nat):V (l.getD i O.zero):=o9 a H.zero.1 i
theorem wN{l c:List α}{a b:α}{t:Nat}(f:br V l)(n:V a)(i:V b)(e:gP O l t a b=some c):br V c/\gP P (l.map h) t (h a) (h b)=some (c.map h):=by
 unfold gP at e⊢
 cases d:O.times a b with
 |none=>grind
 | some p=>
  rw[d]at e;obtain⟨k,m⟩:=H.times n i d;rw[m];dsimp only at e⊢;rw[H.getD]
  cases g:O.plus (l.getD t O.zero) p with
  |none=>grind
  |some s=>
   rw[g]at e;obtain⟨j,o⟩:=H.plus (H.at_ f t) k g;obtain rfl:=oI e;rw[o];exact⟨f.set j t,by simp⟩
theorem CL(a:List (jy α))(k:Nat):(a.map (mapA h)).getD k (ct P)=mapA h (a.getD k (ct O)):=by
 have:ct P=mapA h (ct O):=by unfold ct mapA;rw[H.zero.2]
 grind
theorem On{b:List (jy α)}(c:∀a∈b,V a.w)(k:Nat):V (b.getD k (ct O)).w:=
 o9 (V:=λ(a:jy α)=>V a.w) c (by unfold ct;exact H.zero.1) k
theorem Fc{i o:Int}{u:α}{b:List (jy α)}(g:V u)(j:∀a∈b,V a.w)(l:List α)(k:Nat)(d:List α)(f:br V l)(e:jZ O i o u b l k=some d):br V d/\jZ P i o (h u) (b.map (mapA h)) (l.map h) k=some (d.map h):=by
 unfold jZ at e⊢;rw[CL H];show br V d/\(if(b.getD k (ct O)).i≠i\/(b.getD k (ct O)).o≠o then some (l.map h)else gP P (l.map h) (b.getD k (ct O)).t (h u) (h (b.getD k (ct O)).w))=some (d.map h);split at e
 ·grind
 ·next c=>rw[if_neg c];grind[wN,On]
omit H in
theorem zX(M:gC α)(q:Nat):(mapM h M).bP.getD q dU=nW h (M.bP.getD q dU):=tI (h:=nW h) M.bP q dU
omit H in
theorem tL{M:gC α}(q:Nat):M.bP.getD q dU=dU\/M.bP.getD q dU∈M.bP:=by grind
omit H in
theorem S2{M:gC α}(c:CJ V M)(q:Nat):∀a∈(M.bP.getD q dU).arcs,V a.w:=λa b=>by
 rcases tL (M:=M) q with e|e
 ·rw[e]at b;cases b
 ·exact c.w _ e a b
omit H in
theorem XZ{M:gC α}(b:CJ V M)(q:Nat){f:α}(a:(M.bP.getD q dU).fin=some f):V f:=by
 rcases tL (M:=M) q with e|e
 ·rw[e]at a;cases a
 ·exact b.fin _ e f a
theorem pX(n:Nat):br V (bE O n)/\(bE O n).map h=bE P n:=⟨br.rep H.zero.1 n,by unfold bE;rw[List.map_replicate,H.zero.2]⟩
theorem Ju{M:gC α}(j:CJ V M){v b:List α}{i o:Int}(d:br V v)(e:k9 O M v i o=some b):br V b/\k9 P (mapM h M) (v.map h) i o=some (b.map h):=by
 unfold k9 at e⊢;have f:=pX H M.bP.length;have a:(mapM h M).bP.length=M.bP.length:=lM _;rw[a,<-f.2];refine eJ (VB:=br V) (H:=List.map h) (λl q k g e=>?_) _ _ _ _ f.1 e;unfold qU at e⊢;rw[H.getD,zX,H.yC (H.at_ d q)];split at e
 ·grind
 ·next c=>
  rw[if_neg c];have a:(nW h (M.bP.getD q dU)).arcs.length=(M.bP.getD q dU).arcs.length:=lM _;rw[a];exact eJ (VB:=br V) (H:=List.map h) (Fc H (H.at_ d q) (S2 j q)) _ _ _ _ g e
theorem Mi{a b c:List α}(k:br V a)(f:br V b)(e:nX O a b=some c):br V c/\nX P (a.map h) (b.map h)=some (c.map h):=by
 unfold nX at e⊢;rw[lM];refine eJ (VB:=br V) (H:=List.map h) (λl q m g e=>?_) _ _ _ _ (λx n=>by grind) e;unfold ye at e⊢;rw[H.getD,H.getD]
 cases d:O.plus (a.getD q O.zero) (b.getD q O.zero)with
 |none=>grind
 |some s=>
  rw[d]at e;obtain⟨i,j⟩:=H.plus (H.at_ k q) (H.at_ f q) d;obtain rfl:=oI e;rw[j];exact⟨g.snoc i,by grind⟩
theorem oN(B:List (List α))(i j:Nat):bW P (B.map (List.map h)) i j=h (bW O B i j):=by
 unfold bW;have:(B.map (List.map h)).getD i []=(B.getD i []).map h:=tI (h:=List.map h) B i [];rw[this,H.getD]
theorem m9{B:List (List α)}(a:br (br V) B)(i j:Nat):V (bW O B i j):=H.at_ (o9 a (λx b=>by grind) i) j
theorem Ht{M:gC α}(vm:CJ V M){r:Option (List (List α))}(e:ee O M=some r):(∀B,r=some B->br (br V) B)/\ee P (mapM h M)=some (r.map (List.map (List.map h))):=by
 unfold ee at e⊢;have I:(mapM h M).bP.length=M.bP.length:=lM _;rw[I]
 cases J:bg (hH O M) M.bP.length 0 []with
 |none=>grind
 | some A=>
  rw[J]at e;obtain⟨h1,t⟩:=eJ (VB:=br (br V)) (H:=List.map (List.map h)) (g:=hH P (mapM h M)) (λA q A' hA e=>by
   unfold hH at e⊢;have R:=pX H M.bP.length;rw[zX,I,<-R.2];have K:(nW h (M.bP.getD q dU)).arcs.length=(M.bP.getD q dU).arcs.length:=lM _;rw[K]
   cases y:bg (fo O (M.bP.getD q dU).arcs) (M.bP.getD q dU).arcs.length 0 (bE O M.bP.length)with
   |none=>rw[y]at e;cases e
   | some r=>
    rw[y]at e;obtain rfl:=oI e;obtain⟨Y,h4⟩:=eJ (VB:=br V) (H:=List.map h) (g:=fo P (nW h (M.bP.getD q dU)).arcs) (λl k l' o e=>by
     unfold fo at e⊢;show _/\(if(((M.bP.getD q dU).arcs.map (mapA h)).getD k (ct P)).i≠0\/(((M.bP.getD q dU).arcs.map (mapA h)).getD k (ct P)).o≠0 then some (l.map h)else match P.plus ((l.map h).getD (((M.bP.getD q dU).arcs.map (mapA h)).getD k (ct P)).t P.zero) (((M.bP.getD q dU).arcs.map (mapA h)).getD k (ct P)).w with
      |none=>none
      |some s=>some ((l.map h).set (((M.bP.getD q dU).arcs.map (mapA h)).getD k (ct P)).t s))=_
     rw[CL H];have hw:=On H (S2 vm q) k;generalize (M.bP.getD q dU).arcs.getD k (ct O)=c at*;show _/\(if c.i≠0\/c.o≠0 then some (l.map h)else match P.plus ((l.map h).getD c.t P.zero) (h c.w)with
      |none=>none
      |some s=>some ((l.map h).set c.t s))=_
     split at e
     ·next g=>rw[if_pos g];obtain rfl:=oI e;exact⟨o,rfl⟩
     ·next g=>
      rw[if_neg g,H.getD]
      cases a:O.plus (l.getD c.t O.zero) c.w with
      |none=>rw[a]at e;cases e
      |some s=>
       rw[a]at e;obtain⟨F,z⟩:=H.plus (H.at_ o c.t) hw a;obtain rfl:=oI e;rw[z];exact⟨o.set F _,by rw[map_set]⟩) _ _ _ _ R.1 y
    rw[h4];exact⟨hA.snoc Y,by rw[map_append];rfl⟩) _ _ _ _ (λx d=>by cases d) J
  have t:bg (hH P (mapM h M)) M.bP.length 0 []=some (A.map (List.map h)):=t;rw[t];dsimp only at e⊢;have ha:oY (mapM h M)=oY M:=by
   unfold oY;show(M.bP.map (nW h)).any _=_;rw[List.any_map];congr 1;funext s;show((s.arcs.map (mapA h)).any _)=_;rw[List.any_map];rfl
  rw[ha];split at e
  ·next c=>
   rw[if_pos c];split at e
   ·cases e
   ·next c2=>
    rw[if_neg c2]
    cases a:jY O A with
    |none=>rw[a]at e;cases e
    | some B=>
     rw[a]at e;obtain rfl:=oI e;have m:br (br V) B/\jY P (A.map (List.map h))=some (B.map (List.map h)):=by
      unfold jY at a⊢;rw[lM]
      cases u:bg (fz O) A.length 0 A with
      |none=>rw[u]at a;cases a
      | some C=>
       rw[u]at a;obtain⟨F,z⟩:=eJ (VB:=br (br V)) (H:=List.map (List.map h)) (g:=fz P) (λB k S b e=>by
        unfold fz at e⊢;rw[oN H,lM]
        cases E:O.star (bW O B k k)with
        |none=>rw[E]at e;cases e
        | some s=>
         rw[E]at e;obtain⟨h7,h8⟩:=H.star (m9 H b k k) E;rw[h8];refine eJ (VB:=br (br V)) (H:=List.map (List.map h)) (λC i C' W e=>?_) _ _ _ _ (λx d=>by cases d) e;unfold jb at e⊢;rw[lM]
         cases w:bg (cF O B s k i) B.length 0 []with
         |none=>rw[w]at e;cases e
         | some r=>
          rw[w]at e;obtain rfl:=oI e;obtain⟨h9,f⟩:=eJ (VB:=br V) (H:=List.map h) (g:=cF P (B.map (List.map h)) (h s) k i) (λr j r' T e=>by
           unfold cF at e⊢;rw[oN H,oN H,oN H,H.yC (m9 H b i k),H.yC (m9 H b k j)];split at e
           ·next g=>rw[if_pos g];obtain rfl:=oI e;exact⟨T.snoc (m9 H b i j),by rw[map_append];rfl⟩
           ·next g=>
            rw[if_neg g]
            cases D:O.times (bW O B i k) s with
            |none=>rw[D]at e;cases e
            | some p=>
             rw[D]at e;obtain⟨Z,U⟩:=H.times (m9 H b i k) h7 D;rw[U];dsimp only at e⊢
             cases n:O.times p (bW O B k j)with
             |none=>rw[n]at e;cases e
             | some X=>
              rw[n]at e;obtain⟨u3,u4⟩:=H.times Z (m9 H b k j) n;rw[u4];dsimp only at e⊢
              cases v:O.plus (bW O B i j) X with
              |none=>rw[v]at e;cases e
              |some c=>
               rw[v]at e;obtain⟨u5,u6⟩:=H.plus (m9 H b i j) u3 v;rw[u6];obtain rfl:=oI e;exact⟨T.snoc u5,by rw[map_append];rfl⟩) _ _ _ _ (λx d=>by cases d) w
          have f:bg (cF P (B.map (List.map h)) (h s) k i) B.length 0 []=some (r.map h):=f;rw[f];exact⟨W.snoc h9,by rw[map_append];rfl⟩) _ _ _ _ h1 u
       rw[z];dsimp only at a⊢;refine eJ (VB:=br (br V)) (H:=List.map (List.map h)) (λB i S b e=>?_) _ _ _ _ F a;unfold ou at e⊢;rw[oN H,<-H.one.2]
       cases G:O.plus O.one (bW O B i i)with
       |none=>rw[G]at e;cases e
       |some s=>
        rw[G]at e;obtain⟨N,Q⟩:=H.plus H.one.1 (m9 H b i i) G;rw[Q];obtain rfl:=oI e;have hg:(B.map (List.map h)).getD i []=(B.getD i []).map h:=tI (h:=List.map h) B i [];have L:br V (B.getD i []):=o9 b (λx d=>by cases d) i;exact⟨br.set (V:=br V) b (L.set N i) i,by rw[map_set,hg,map_set]⟩
     rw[m.2];exact⟨λS e=>by obtain rfl:=oI e;exact m.1,rfl⟩
  grind
theorem Md{v d:List α}(b:br V v){B:Option (List (List α))}(a:∀C,B=some C->br (br V) C)(e:gk O v B=some d):br V d/\gk P (v.map h) (B.map (List.map (List.map h)))=some (d.map h):=by
 cases B with
 |none=>obtain rfl:=oI e;exact⟨b,rfl⟩
 |some B=>
  have a:=a B rfl;have i:=pX H v.length;show _/\bg (λl q=>bg (fX P (v.map h) (B.map (List.map h)) q) (v.map h).length 0 l) (v.map h).length 0 (bE P (v.map h).length)=_;rw[lM,<-i.2];refine eJ (VB:=br V) (H:=List.map h) (λl q f c e=>?_) _ _ _ _ i.1 e;refine eJ (VB:=br V) (H:=List.map h) (λl p f c e=>?_) _ _ _ _ c e;unfold fX at e⊢;rw[H.getD,oN H,H.yC (H.at_ b q),H.yC (m9 H a q p)];split at e
  ·grind
  ·next g=>rw[if_neg g];exact wN H c (H.at_ b q) (m9 H a q p) e
theorem Px{M:gC α}(n:CJ V M){v:List α}{c:α}(i:br V v)(e:o0 O M v=some c):V c/\o0 P (mapM h M) (v.map h)=some (h c):=by
 unfold o0 at e⊢;rw[lM]
 cases b:bg (jW O M v) v.length 0 [O.zero]with
 |none=>grind
 | some l=>
  rw[b]at e;obtain rfl:=oI e;obtain⟨m,a⟩:=eJ (VB:=br V) (H:=List.map h) (g:=jW P (mapM h M) (v.map h)) (λl q o j e=>by
   unfold jW at e⊢;rw[zX,H.getD];show _/\(match (M.bP.getD q dU).fin.map h with|none=>some (l.map h)|some f=>gP P (l.map h) 0 (h (v.getD q O.zero)) f)=_
   cases d:(M.bP.getD q dU).fin with
   |none=>grind
   |some f=>rw[d]at e;exact wN H j (H.at_ i q) (XZ n q d) e) _ _ _ _ (λx k=>by rw[mem_singleton.1 k];exact H.zero.1) b
  have a:bg (jW P (mapM h M) (v.map h)) v.length 0 [h O.zero]=some (l.map h):=a;rw[H.zero.2]at a;rw[a];dsimp only;rw[H.getD];exact⟨H.at_ m 0,rfl⟩
omit H in
theorem zP(T:List (List (List α)))(i j:Nat):dS (T.map (List.map (List.map h))) i j=(dS T i j).map h:=by grind[dS]
omit H in
theorem wV(T:List (List (List α)))(i j:Nat)(v:List α):fA (T.map (List.map (List.map h))) i j (v.map h)=(fA T i j v).map (List.map (List.map h)):=by grind[map_set,fA]
omit H in
theorem Ho{T:List (List (List α))}(b:br (br (br V)) T)(i j:Nat):br V (dS T i j):=
 o9 (V:=br V) (o9 (V:=br (br V)) b (λx a=>by grind) i) (λx a=>by grind) j
omit H in
theorem C1{T:List (List (List α))}(a:br (br (br V)) T){v:List α}(b:br V v)(i j:Nat):br (br (br V)) (fA T i j v):=
 br.set (V:=br (br V)) a (br.set (V:=br V) (o9 (V:=br (br V)) a (λx c=>by grind) i) b j) i
theorem Hy{M:gC α}(b:CJ V M){x y:List Int}{w:α}(e:eK O M x y=some w):V w/\eK P (mapM h M) x y=some (h w):=by
 unfold eK at e⊢
 cases m:ee O M with
 |none=>grind
 | some B=>
  rw[m]at e;obtain⟨A,C⟩:=Ht H b m;rw[C];dsimp only at e⊢;have f:=pX H M.bP.length;have t:(mapM h M).bP.length=M.bP.length:=lM _;have u:br (br (br V)) (kE O M x y)/\kE P (mapM h M) x y=(kE O M x y).map (List.map (List.map h)):=by
   unfold kE;refine⟨C1 (br.rep (br.rep f.1 _) _) (f.1.set b.lead _) 0 0,?_⟩;rw[<-wV,map_set,List.map_replicate,List.map_replicate,f.2,t];rfl
  cases o:bg (rL O M B x y) (x.length+1) 0 (kE O M x y)with
  |none=>grind
  | some T=>
   rw[o]at e;obtain⟨G,I⟩:=eJ (VB:=br (br (br V))) (H:=List.map (List.map (List.map h))) (g:=rL P (mapM h M) (B.map (List.map (List.map h))) x y) (λT i n a e=>by
    unfold rL at e⊢;refine eJ (VB:=br (br (br V))) (H:=List.map (List.map (List.map h))) (λT j n a e=>?_) _ _ _ _ a e;unfold nf at e⊢;rw[zP]
    cases c:gk O (dS T i j) B with
    |none=>rw[c]at e;cases e
    | some v=>
     rw[c]at e;obtain⟨q,F⟩:=Md H (Ho a i j) A c;rw[F];dsimp only at e⊢;rw[wV];refine eJ (VB:=br (br (br V))) (H:=List.map (List.map (List.map h))) (λT k n a e=>?_) _ _ _ _ (C1 a q i j) e;unfold pa at e⊢;split at e
     ·next g=>rw[if_pos g];obtain rfl:=oI e;exact⟨a,rfl⟩
     ·next g=>
      rw[if_neg g]
      cases d:k9 O M v (bT x i (k%2)) (bT y j (k/2))with
      |none=>rw[d]at e;cases e
      | some s=>
       rw[d]at e;obtain⟨D,z⟩:=Ju H b q d;rw[z];dsimp only at e⊢;rw[zP]
       cases l:nX O (dS T (i+k%2) (j+k/2)) s with
       |none=>rw[l]at e;cases e
       |some r=>
        rw[l]at e;obtain⟨E,p⟩:=Mi H (Ho a _ _) D l;rw[p];dsimp only at e⊢;obtain rfl:=oI e;exact⟨C1 a E _ _,by rw[wV]⟩) _ _ _ _ u.1 o
   grind[zP,Px,Ho]
end
end
end Go.Num
end
section
namespace Go.Num
variable{n:Nat}
namespace aP
variable {K:Type} {S:aP K}
def dot(S:aP K)(u v:Nat->K)(n:Nat):K:=S.ca (λi=>S.mul (u i) (v i)) n
theorem NS{a:Nat->Nat->K}{c x:Nat->K}(d:∀i,i<n->S.le (S.add (c i) (S.ca (λj=>S.mul (a i j) (x j)) n)) (x i))
  (e:∀y:Nat->K,(∀i,i<n->S.le (S.add (c i) (S.ca (λj=>S.mul (a i j) (y j)) n)) (y i))->∀i,i<n->S.le (x i) (y i)):∀i,i<n->x i=pT S a n c i:=
 λi b=>S.Cs (e _ (λj _=>le_of_eq (AT a n c j).symm) i b) (vC a d b)
theorem rq{a b:Nat->Nat->K}{c d:Nat->K}(f:∀i j,i<n->j<n->a i j=b i j)(g:∀i,i<n->c i=d i):∀i,i<n->pT S a n c i=pT S b n d i:=by
 refine NS (λi e=>?_) λy h i e=>vC a (λi e=>?_) e
 all_goals grind[le_of_eq,AT,ax]
theorem ZW(a:Nat->Nat->K)(n:Nat)(c d:Nat->K)(i:Nat):pT S a n (λi=>S.add (c i) (d i)) i=S.add (pT S a n c i) (pT S a n d i):=by
 unfold pT;rw[abe];congr 1;rw[<-hJ];exact ax λj _=>S.mul_add _ _ _
theorem ZX(a:Nat->Nat->K)(n:Nat)(k:K)(c:Nat->K)(i:Nat):pT S a n (λi=>S.mul k (c i)) i=S.mul k (pT S a n c i):=by
 unfold pT;rw[S.mul_add];congr 1;rw[<-qp];refine ax λj _=>?_;rw[<-S.mul_assoc,S.mul_comm (elim S a n i j),S.mul_assoc]
end aP
end Go.Num
end
section
namespace Go.Num
variable{p:List Int}
namespace aP
variable {K:Type} {S:aP K}
def gi{b:Type}(S:aP K)(f:b->K):List b->K
 |[]=>S.zero
 |a::l=>S.add (f a) (gi S f l)
theorem ff{b:Type}{f g:b->K}:∀{l:List b},(∀a∈l,f a=g a)->gi S f l=gi S g l
 |[],_=>rfl
 |a::l,h=>by
  show S.add _ _=S.add _ _;rw[h a (List.mem_cons_self ..),ff λx c=>h x (List.mem_cons_of_mem _ c)]
theorem Ey{b:Type}(f g:b->K):∀l:List b,gi S (λa=>S.add (f a) (g a)) l=S.add (gi S f l) (gi S g l)
 |[]=>(S.zero_add _).symm
 |a::l=>by
  show S.add _ (gi S _ l)=S.add (S.add _ _) (S.add _ _);rw[Ey f g l,abe]
theorem zA{b:Type}(c:K)(f:b->K):∀l:List b,gi S (λa=>S.mul c (f a)) l=S.mul c (gi S f l)
 |[]=>(mul_zero c).symm
 |a::l=>by
  show S.add _ (gi S _ l)=S.mul c (S.add _ _);rw[zA c f l,S.mul_add]
theorem zy{c:Type}(f:c->K):∀l b:List c,gi S f (l++b)=S.add (gi S f l) (gi S f b)
 |[],b=>(S.zero_add _).symm
 |a::l,b=>by
  show S.add _ (gi S f (l++b))=S.add (S.add _ _) _;rw[zy f l b,S.add_assoc]
theorem rr{a c:Type}(g:c->a)(f:a->K):∀l:List c,gi S f (l.map g)=gi S (λb=>f (g b)) l
 |[]=>rfl
 |b::l=>by
  show S.add _ (gi S f (l.map g))=S.add _ _;rw[rr g f l]
theorem rC{b:Type}:∀l:List b,gi S (λ_=>S.zero) l=S.zero
 |[]=>rfl
 |a::l=>by
  show S.add _ (gi S _ l)=_;rw[rC l,S.zero_add]
end aP
structure rG(K:Type) where
 i:Int
 o:Int
 w:K
 t:Nat
structure cj(K:Type) where
 n:Nat
 fin:Nat->K
 arcs:Nat->List (rG K)
def eT(s:Int)(x:List Int):Option (List Int):=if s=0 then some x else match x with
 |[]=>none
 |c::r=>if c=s then some r else none
namespace cj
open aP
variable {K:Type} (S:aP K) (M:cj K)
def IL(q p:Nat):K:=gi S (λa=>if a.i=0/\a.o=0/\a.t=p then a.w else S.zero) (M.arcs q)
def go(W:List Int->List Int->Nat->K)(x y:List Int)(a:rG K):K:=if a.i=0/\a.o=0 then S.zero else match eT a.i x,eT a.o y with
 |some c,some b=>S.mul a.w (W c b a.t)
 |_,_=>S.zero
def tail(W:List Int->List Int->Nat->K)(x y:List Int)(q:Nat):K:=S.add (if x=[]/\y=[]then M.fin q else S.zero) (gi S (go S W x y) (M.arcs q))
def IT:Nat->List Int->List Int->Nat->K
 |0,x,y=>pT S (IL S M) M.n (tail S M (λ_ _ _=>S.zero) x y)
 |f+1,x,y=>pT S (IL S M) M.n (tail S M (IT f) x y)
def val(x y:List Int):Nat->K:=IT S M (x.length+y.length) x y
variable {S M}
theorem OI{s:Int}{x:List Int}(h:eT s x=some p):p.length+(if s=0 then 0 else 1)=x.length:=by
 unfold eT at h
 grind
theorem go_congr{W d:List Int->List Int->Nat->K}{x:List Int}{a:rG K}(h:∀c b,c.length+b.length<x.length+p.length->W c b a.t=d c b a.t):go S W x p a=go S d x p a:=by
 unfold go;split
 ·rfl
 ·next g=>
  cases e:eT a.i x with
  |none=>rfl
  | some c=>
   cases f:eT a.o p with
   |none=>rfl
   |some b=>
    dsimp only;have i:=OI e;have j:=OI f
    grind
theorem sW{W W':List Int->List Int->Nat->K}{x:List Int}(h:∀b a,b.length+a.length<x.length+p.length->W b a=W' b a):tail S M W x p=tail S M W' x p:=by grind[ff,go_congr,tail]
theorem IU:∀{f g:Nat}{x y:List Int},x.length+y.length<=f->x.length+y.length<=g->IT S M f x y=IT S M g x y
 |0,0,_,_,_,_=>rfl
 |0,g+1,x,y,h,_=>by grind[sW,IT]
 |f+1,0,x,y,_,h=>by grind[sW,IT]
 |f+1,g+1,x,y,c,e=>by
  show pT S _ _ (tail S M _ x y)=pT S _ _ (tail S M _ x y);rw[sW (W:=IT S M f) (W':=IT S M g) λd a b=>IU (by omega) (by omega)]
theorem IV(x y:List Int):val S M x y=pT S (IL S M) M.n (tail S M (val S M) x y):=by
 have h:val S M x y=IT S M (x.length+y.length+1) x y:=IU (Nat.le_refl _) (Nat.le_succ _);rw[h];show pT S _ _ (tail S M _ x y)=_;rw[sW (W':=val S M) λc a b=>IU (by omega) (Nat.le_refl _)]
end cj
end Go.Num
end
section
namespace Go.Num
variable{n:Nat}
variable{m:Nat}
namespace aP
variable {K:Type} {S:aP K}
theorem G9{f:Nat->K}(h:∀i,i<n->f i=S.zero):S.ca f n=S.zero:=by grind[ax,ei]
theorem uM(f:Nat->K){a m n:Nat}(h:a+m<=n):S.ca (λj=>if a<=j/\j<a+m then f j else S.zero) n=S.ca (λp=>f (a+p)) m:=by
 rw[oS a (by omega:a<=n),G9 (λi b=>by rw[if_neg (by omega)]),S.zero_add];rw[oS m (by omega:m<=n-a)];rw[ax (f:=λi=>if a<=a+i/\a+i<a+m then f (a+i)else S.zero) (g:=λp=>f (a+p)) (n:=m) λi b=>by rw[if_pos (by omega)]];simp[G9,if_neg,add_zero]
theorem Z6(f:Nat->K){a m n:Nat}(h:a+m<=n):S.ca f n=S.add (S.ca (λp=>f (a+p)) m) (S.ca (λj=>if a<=j/\j<a+m then S.zero else f j) n):=by
 rw[<-uM f h,<-hJ];refine ax λj _=>?_;by_cases c:a<=j/\j<a+m
 ·rw[if_pos c,if_pos c,add_zero]
 ·rw[if_neg c,if_neg c,S.zero_add]
theorem Vf{a a':Nat->Nat->K}{low:Nat}{c c':Nat->K}(h:low+m<=n)(w:∀q p,q<m->p<m->a (low+q) (low+p)=a' q p)
  (s:∀q,q<m->c' q=S.add (c (low+q)) (S.ca (λj=>if low<=j/\j<low+m then S.zero else S.mul (a (low+q) j) (pT S a n c j)) n)):∀q,q<m->pT S a n c (low+q)=pT S a' m c' q:=by
 have d:∀(y:Nat->K) q,q<m->S.add (c (low+q)) (S.ca (λj=>S.mul (a (low+q) j) (y j)) n)=S.add (S.add (c (low+q)) (S.ca (λj=>if low<=j/\j<low+m then S.zero else S.mul (a (low+q) j) (y j)) n)) (S.ca (λp=>S.mul (a' q p) (y (low+p))) m):=λy q b=>by
  rw[Z6 (λj=>S.mul (a (low+q) j) (y j)) h,S.add_assoc];congr 1;rw[S.add_comm]
  grind[ax]
 have g:∀q,q<m->S.le (pT S a' m c' q) (pT S a n c (low+q)):=λq b=>by
  refine vC a' (n:=m) (c:=c') (x:=λq=>pT S a n c (low+q)) (λi k=>?_) b;have u:=d (pT S a n c) i k
  grind[AT,le_of_eq]
 let Y:Nat->K:=λj=>if low<=j/\j<low+m then pT S a' m c' (j-low)else pT S a n c j
 have r:∀j,S.le (Y j) (pT S a n c j):=λj=>by
  by_cases e:low<=j/\j<low+m
  ·grind
  ·show S.le (if _ then _ else _) _;rw[if_neg e];exact S.le_refl _
 intro q b;refine S.Cs ?_ (g q b);have v:=vC (S:=S) a (n:=n) (c:=c) (x:=Y) (λi k=>?_) (i:=low+q) (by omega)
 ·grind
 ·by_cases e:low<=i/\i<low+m
  ·obtain⟨p,rfl⟩:∃p,i=low+p:=⟨i-low,by omega⟩
   have o:p<m:=by omega
   have f:Y (low+p)=pT S a' m c' p:=by
    show(if _ then _ else _)=_;rw[if_pos e,show low+p-low=p by omega]
   rw[d Y p o,f];refine le_of_eq ?_
   conv=>rhs;rw[AT,s p o]
   congr 1
   ·grind
   ·refine ax λl t=>?_
    grind
  ·have f:Y i=pT S a n c i:=by
    show(if _ then _ else _)=_;rw[if_neg e]
   rw[f]
   conv=>rhs;rw[AT]
   exact S.wY (S.le_refl _) (WL λj _=>S.H7 _ (r j))
end aP
end Go.Num
end
section
namespace Go.Num
open aP
variable{p:List Int}
section
variable {K:Type} {S:aP K}
def Bn{K:Type}(low:Nat)(a:rG K):rG K:=⟨a.i,a.o,a.w,low+a.t⟩
def SW{K:Type}(t:Nat):Option K->List (rG K)
 |none=>[]
 |some w=>[⟨0,0,w,t⟩]
structure kZ(C A:cj K)(low:Nat)(lv:Nat->Option K)(t:Nat):Prop where
 fit:low+A.n<=C.n
 out:t<C.n/\(t<low\/low+A.n<=t)
 tgt:∀q,q<A.n->∀a∈A.arcs q,a.t<A.n
 arcs:∀q,q<A.n->C.arcs (low+q)=(A.arcs q).map (Bn low)++SW t (lv q)
def xY(S:aP K)(o:Option K):K:=o.getD S.zero
def emp(S:aP K)(x y:List Int)(k:K):K:=if x=[]/\y=[]then k else S.zero
section
variable {C A:cj K} {low t:Nat} {lv:Nat->Option K}
theorem wW(F:rG K->K)(t:Nat)(o:Option K):gi S F (SW t o)=match o with|none=>S.zero|some w=>F ⟨0,0,w,t⟩:=by
 cases o with
 |none=>rfl
 |some w=>exact add_zero _
theorem kZ.acf(b:kZ C A low lv t){q p:Nat}(d:q<A.n)(e:p<A.n):cj.IL S C (low+q) (low+p)=cj.IL S A q p:=by
 unfold cj.IL;rw[b.arcs q d,zy,rr,wW];have c:gi S (λa=>if(Bn low a).i=0/\(Bn low a).o=0/\(Bn low a).t=low+p then(Bn low a).w else S.zero) (A.arcs q)=gi S (λa=>if a.i=0/\a.o=0/\a.t=p then a.w else S.zero) (A.arcs q):=ff λa _=>by
  show(if a.i=0/\a.o=0/\low+a.t=low+p then a.w else S.zero)=_
  grind
 rw[c]
 cases lv q with
 |none=>exact add_zero _
 |some w=>
  dsimp only;rw[if_neg (by have:=b.out;omega),add_zero]
theorem kZ.ZU(b:kZ C A low lv t){q j:Nat}(c:q<A.n)(e:¬(low<=j/\j<low+A.n)):cj.IL S C (low+q) j=if t=j then xY S (lv q)else S.zero:=by
 unfold cj.IL;rw[b.arcs q c,zy,rr,wW];rw[ff (g:=λ_=>S.zero) λa d=>?_,rC,S.zero_add]
 ·grind[xY]
 ·show(if a.i=0/\a.o=0/\low+a.t=j then a.w else S.zero)=S.zero;rw[if_neg];have:=b.tgt q c a d;omega
theorem kZ.val(b:kZ C A low lv t)(x y:List Int){q:Nat}(d:q<A.n):cj.val S C x y (low+q)=pT S (cj.IL S A) A.n (λq=>S.add (S.add (emp S x y (C.fin (low+q))) (gi S (cj.go S (λh f p=>cj.val S C h f (low+p)) x y) (A.arcs q))) (S.mul (xY S (lv q)) (cj.val S C x y t))) q:=by
 have i:=cj.IV (S:=S) (M:=C) x y;have l:=Vf (S:=S) (a:=cj.IL S C) (a':=cj.IL S A) (n:=C.n) (m:=A.n) (low:=low) (c:=cj.tail S C (cj.val S C) x y) (c':=λq=>S.add (S.add (emp S x y (C.fin (low+q))) (gi S (cj.go S (λh f p=>cj.val S C h f (low+p)) x y) (A.arcs q))) (S.mul (xY S (lv q)) (cj.val S C x y t))) b.fit (λq p d k=>b.acf d k) (λq d=>by
  congr 1
  ·unfold cj.tail emp;congr 1;rw[b.arcs q d,zy,rr,wW];have:(match lv q with|none=>S.zero|some w=>cj.go S (cj.val S C) x y ⟨0,0,w,t⟩)=S.zero:=by
    cases lv q with
    |none=>rfl
    |some w=>exact if_pos ⟨rfl,rfl⟩
   rw[this,add_zero];rfl
  ·rw[i];rw[ax (g:=λj=>if t<=j/\j<t+1 then S.mul (xY S (lv q)) (pT S (cj.IL S C) C.n (cj.tail S C (cj.val S C) x y) j)else S.zero) λj _=>by
    by_cases c:low<=j/\j<low+A.n
    ·rw[if_pos c,if_neg (by have:=b.out;omega)]
    ·rw[if_neg c,b.ZU d c];by_cases e:t=j
     ·rw[if_pos e,if_pos (by omega)]
     ·rw[if_neg e,if_neg (by omega),S.zero_mul]]
   rw[uM (λj=>S.mul (xY S (lv q)) (pT S (cj.IL S C) C.n (cj.tail S C (cj.val S C) x y) j)) (by have:=b.out;omega:t+1<=C.n)];exact(S.zero_add _).symm) q d
 simp_all
theorem kZ.jH(b:kZ C A low lv t)(e:∀q,q<A.n->lv q=none)(d:∀q,q<A.n->C.fin (low+q)=A.fin q):∀(n:Nat)(x y:List Int),x.length+y.length<=n->∀q,q<A.n->cj.val S C x y (low+q)=cj.val S A x y q
 |n,x,y,j,q,c=>by
  rw[b.val x y c,cj.IV (S:=S) (M:=A) x y];refine rq (λ_ _ _ _=>rfl) (λq c=>?_) q c;rw[e q c,d q c];show S.add _ (S.mul S.zero _)=_;rw[S.zero_mul,add_zero];unfold cj.tail emp;congr 1;refine ff λa h=>cj.go_congr λg f i=>?_
  cases n with
  |zero=>omega
  |succ n=>exact b.jH e d n g f (by omega) _ (b.tgt q c a h)
end
def eP(S:aP K)(F:List Int->List Int->List Int->List Int->K)(x y:List Int):K:=S.ca (λi=>S.ca (λj=>F (x.take i) (y.take j) (x.drop i) (y.drop j)) (y.length+1)) (x.length+1)
def conv(S:aP K)(A:cj K)(V:List Int->List Int->K)(x y:List Int)(q:Nat):K:=eP S (λd c b a=>S.mul (cj.val S A d c q) (V b a)) x y
theorem rI{F G:List Int->List Int->List Int->List Int->K}{x:List Int}(h:∀i j,i<=x.length->j<=p.length->F (x.take i) (p.take j) (x.drop i) (p.drop j)=G (x.take i) (p.take j) (x.drop i) (p.drop j)):eP S F x p=eP S G x p:=ax λi a=>ax λj b=>h i j (by omega) (by omega)
theorem CS(F G:List Int->List Int->List Int->List Int->K)(x y:List Int):eP S (λa b c d=>S.add (F a b c d) (G a b c d)) x y=S.add (eP S F x y) (eP S G x y):=by grind[hJ,ax,eP]
theorem CT(k:K)(F:List Int->List Int->List Int->List Int->K)(x y:List Int):eP S (λa b c d=>S.mul k (F a b c d)) x y=S.mul k (eP S F x y):=by grind[qp,eP]
theorem rP(f:Nat->K)(n:Nat):S.ca f (n+1)=S.add (f 0) (S.ca (λi=>f (i+1)) n):=by
 rw[oS (S:=S) 1 (n:=n+1) (by omega)];show S.add (S.add S.zero (f 0)) (S.ca _ n)=_;rw[S.zero_add]
 grind
theorem Bh{F:List Int->List Int->List Int->List Int->K}{x:List Int}(h:∀i j,i<=x.length->j<=p.length->F (x.take i) (p.take j) (x.drop i) (p.drop j)=S.zero):eP S F x p=S.zero:=by grind[ax,ei,eP]
theorem L7(F:List Int->List Int->List Int->List Int->K)(x y:List Int):eP S (λa b c d=>if a=[]/\b=[]then F a b c d else S.zero) x y=F [] [] x y:=by
 unfold eP;rw[rP,rP];have e:∀i j,i<x.length->j<y.length+1->(if x.take (i+1)=[]/\y.take j=[]then F (x.take (i+1)) (y.take j) (x.drop (i+1)) (y.drop j)else S.zero)=S.zero:=λi j f _=>if_neg λh=>by
  have:=congrArg List.length h.1;rw[length_take]at this;have:min (i+1) x.length=0:=this;omega
 rw[ax (n:=x.length) (g:=λ_=>S.zero) λi f=>(ax λj k=>e i j f k).trans (ei _),ei,add_zero];rw[ax (n:=y.length) (g:=λ_=>S.zero) λj k=>if_neg λh=>by
  have:=congrArg List.length h.2;rw[length_take]at this;have:min (j+1) y.length=0:=this;omega]
 simp_all[ei,add_zero]
theorem CW{s:Int}(a:s≠0)(x:List Int)(i:Nat):eT s (x.take (i+1))=(eT s x).map (·.take i):=by
 unfold eT
 grind
theorem F4{s:Int}(x:List Int)(G:List Int->List Int->K):S.ca (λi=>match eT s (x.take i)with|some b=>G b (x.drop i)|none=>S.zero) (x.length+1)=match eT s x with|some b=>S.ca (λi=>G (b.take i) (b.drop i)) (b.length+1)|none=>S.zero:=by
 by_cases a:s=0
 ·simp_all[eT]
 ·rw[rP];have f:eT s (x.take 0)=none:=by unfold eT;rw[if_neg a];rfl
  rw[f];dsimp only;rw[S.zero_add]
  cases x with
  |nil=>unfold eT;rw[if_neg a];rfl
  |cons c r=>
   have e:eT s (c::r)=if c=s then some r else none:=by unfold eT;rw[if_neg a]
   rw[e];by_cases d:c=s
   ·rw[if_pos d];exact ax λi _=>by
     rw[CW a,e,if_pos d];rfl
   ·rw[if_neg d];dsimp only;rw[ax (g:=λ_=>S.zero) λi _=>by rw[CW a,e,if_neg d];rfl,ei]
theorem Pv(A:cj K)(V:List Int->List Int->K)(x y:List Int)(a:rG K):eP S (λd e k f=>S.mul (cj.go S (cj.val S A) d e a) (V k f)) x y=cj.go S (conv S A V) x y a:=by
 unfold cj.go;by_cases c:a.i=0/\a.o=0
 ·rw[if_pos c];exact Bh λi j _ _=>by rw[if_pos c,S.zero_mul]
 ·rw[if_neg c];unfold eP;have l:∀i,S.ca (λj=>S.mul (if a.i=0/\a.o=0 then S.zero else match eT a.i (x.take i),eT a.o (y.take j)with|some m,some b=>S.mul a.w (cj.val S A m b a.t)|_,_=>S.zero) (V (x.drop i) (y.drop j))) (y.length+1) =
    (match eT a.i (x.take i)with|some d=>(match eT a.o y with|some b=>S.ca (λj=>S.mul a.w (S.mul (cj.val S A d (b.take j) a.t) (V (x.drop i) (b.drop j)))) (b.length+1)|none=>S.zero)|none=>S.zero):=λi=>by
   cases h:eT a.i (x.take i)with
   |none=>
    dsimp only;rw[ax (g:=λ_=>S.zero) λj _=>by rw[if_neg c,S.zero_mul],ei]
   |some d=>
    dsimp only;have:=F4 (S:=S) (s:=a.o) y (λe f=>S.mul a.w (S.mul (cj.val S A d e a.t) (V (x.drop i) f)));rw[<-this];refine ax λj _=>?_;rw[if_neg c]
    cases eT a.o (y.take j)with
    |none=>exact S.zero_mul _
    |some e=>exact S.mul_assoc _ _ _
  refine(ax λi _=>l i).trans ?_;have:=F4 (S:=S) (s:=a.i) x (λd k=>match eT a.o y with|some b=>S.ca (λj=>S.mul a.w (S.mul (cj.val S A d (b.take j) a.t) (V k (b.drop j)))) (b.length+1)|none=>S.zero)
  grind[ei,qp,ax,conv,eP]
theorem zW(a:Nat->Nat->K)(n:Nat)(c:Nat->Nat->K)(i:Nat):∀m,pT S a n (λq=>S.ca (λk=>c k q) m) i=S.ca (λk=>pT S a n (c k) i) m
 |0=>by
  show pT S a n (λ_=>S.zero) i=S.zero;unfold pT;rw[ax (g:=λ_=>S.zero) λj _=>mul_zero _,ei,S.zero_add]
 |m+1=>by
  show pT S a n (λq=>S.add (S.ca (λk=>c k q) m) (c m q)) i=S.add _ _;rw[ZW,zW a n c i m]
theorem Bg{f:Type}(F:f->List Int->List Int->List Int->List Int->K)(x y:List Int):∀l:List f,eP S (λa b c d=>gi S (λe=>F e a b c d) l) x y=gi S (λe=>eP S (F e) x y) l
 |[]=>Bh λ_ _ _ _=>rfl
 |e::l=>by
  show eP S (λa b c d=>S.add (F e a b c d) (gi S (λe=>F e a b c d) l)) x y=S.add _ _;rw[CS,Bg F x y l]
theorem Pu(A:cj K)(V:List Int->List Int->K)(x y:List Int){q:Nat}(f:q<A.n):conv S A V x y q=pT S (cj.IL S A) A.n (λq=>S.add (S.mul (A.fin q) (V x y)) (gi S (cj.go S (conv S A V) x y) (A.arcs q))) q:=by
 have g:conv S A V x y q=pT S (cj.IL S A) A.n (λq=>eP S (λe d c b=>S.mul (cj.tail S A (cj.val S A) e d q) (V c b)) x y) q:=by
  unfold eP;rw[zW];unfold conv eP
  refine ax λi _=>?_;rw[zW];refine ax λj _=>?_;dsimp only;rw[cj.IV (S:=S) (M:=A),S.mul_comm,<-ZX];exact rq (λ_ _ _ _=>rfl) (λq _=>S.mul_comm _ _) q f
 rw[g];refine rq (λ_ _ _ _=>rfl) (λq _=>?_) q f;have h:eP S (λe d c b=>S.mul (cj.tail S A (cj.val S A) e d q) (V c b)) x y=S.add (eP S (λe d c b=>if e=[]/\d=[]then S.mul (A.fin q) (V c b)else S.zero) x y) (eP S (λe d c b=>gi S (λa=>S.mul (cj.go S (cj.val S A) e d a) (V c b)) (A.arcs q)) x y):=by
  rw[<-CS];refine rI λi j _ _=>?_;unfold cj.tail;rw[add_mul];congr 1
  ·split
   ·rfl
   ·exact S.zero_mul _
  ·rw[S.mul_comm,<-zA];exact ff λa _=>S.mul_comm _ _
 rw[h,L7 (λ_ _ c b=>S.mul (A.fin q) (V c b)),Bg (λa e d c b=>S.mul (cj.go S (cj.val S A) e d a) (V c b))]
 grind[ff,Pv]
theorem kZ.link{C A:cj K}{low t:Nat}{lv:Nat->Option K}(b:kZ C A low lv t)(e:∀q,q<A.n->xY S (lv q)=A.fin q)(d:∀q,q<A.n->C.fin (low+q)=S.zero):∀(n:Nat)(x y:List Int),x.length+y.length<=n->∀q,q<A.n->cj.val S C x y (low+q)=conv S A (λx y=>cj.val S C x y t) x y q
 |n,x,y,j,q,c=>by
  rw[b.val x y c,Pu A _ x y c];refine rq (λ_ _ _ _=>rfl) (λq c=>?_) q c;rw[e q c,d q c];have:emp S x y S.zero=S.zero:=by unfold emp;split<;>rfl
  rw[this,S.zero_add,S.add_comm];congr 1;refine ff λa h=>cj.go_congr λg f i=>?_
  cases n with
  |zero=>omega
  |succ n=>exact b.link e d n g f (by omega) _ (b.tgt q c a h)
end
section
variable {K:Type} {S:aP K}
abbrev Pr(K:Type):=List Int->List Int->K
def Jf(S:aP K)(F G:Pr K):Pr K:=λx y=>eP S (λa b c d=>S.mul (F a b) (G c d)) x y
theorem L6(k:K)(F G:Pr K)(x y:List Int):Jf S F (λx y=>S.mul k (G x y)) x y=S.mul k (Jf S F G x y):=by
 unfold Jf;rw[<-CT];exact rI λi j _ _=>by rw[<-S.mul_assoc,S.mul_comm _ k,S.mul_assoc]
end
section
variable {K:Type} {S:aP K}
section
variable {C A:cj K} {lv:Nat->Option K} {la:K} {s0:Nat}
def SY(S:aP K)(A:cj K)(la:K)(s0:Nat):Pr K:=λx y=>S.mul la (cj.val S A x y s0)
theorem Pt(V:Pr K)(x y:List Int):S.mul la (conv S A V x y s0)=Jf S (SY S A la s0) V x y:=by
 unfold conv Jf SY
 rw[<-CT];exact rI λi j _ _=>(S.mul_assoc _ _ _).symm
end
end
variable{A:Type}
section
variable {K:Type}
noncomputable def aq(S:aP K):qw K:=⟨S.zero,S.one,λa=>@decide (a=S.zero) (Classical.propDecidable _),λa b=>some (S.add a b),λa b=>some (S.mul a b),λa=>some (S.star a)⟩
variable {S:aP K}
def vec(S:aP K)(l:List K)(p:Nat):K:=l.getD p S.zero
theorem uU{a:K}:(aq S).yC a=true↔a=S.zero:=@decide_eq_true_iff (a=S.zero) (Classical.propDecidable _)
theorem uY{l:List K}{t p:Nat}(a:K)(b:t<l.length):vec S (l.set t a) p=if p=t then a else vec S l p:=by
 unfold vec
 grind
theorem qX(n p:Nat):vec S (List.replicate n S.zero) p=S.zero:=by grind[vec]
theorem mN{f:List K->Nat->Option (List K)}{n:Nat}{c:Nat->Nat->K}:∀(m i:Nat)(l:List K),(∀(l:List K)(k:Nat),i<=k->k<i+m->l.length=n->∃a,f l k=some a/\a.length=n/\∀p,p<n->vec S a p=S.add (vec S l p) (c k p))->l.length=n->
  ∃a,bg f m i l=some a/\a.length=n/\∀p,p<n->vec S a p=S.add (vec S l p) (S.ca (λj=>c (i+j) p) m)
 |0,i,l,_,b=>⟨l,rfl,b,λp _=>(add_zero _).symm⟩
 |m+1,i,l,d,b=>by
  obtain⟨q,h,o,g⟩:=d l i (Nat.le_refl _) (by omega) b;obtain⟨u,r,t,s⟩:=mN m (i+1) q (λl k w v=>d l k (by omega) (by omega)) o;refine⟨u,by unfold bg;rw[h];exact r,t,λp e=>?_⟩;rw[s p e,g p e,S.add_assoc];congr 1;rw[oS (S:=S) (f:=λj=>c (i+j) p) 1 (n:=m+1) (by omega)];congr 1
  ·exact(S.zero_add _).symm
  grind
theorem pf{a:Type}{f:List a->Nat->Option (List a)}{c:Nat->a}:∀(m i:Nat)(l:List a),(∀(l:List a)(k:Nat),i<=k->k<i+m->f l k=some (l++[c k]))->bg f m i l=some (l++(List.range m).map λj=>c (i+j))
 |0,i,l,_=>by simp[bg]
 |m+1,i,l,b=>by
  unfold bg;rw[b l i (Nat.le_refl _) (by omega)];show bg f m (i+1) _=_;rw[pf m (i+1) _ λl k d e=>b l k (by omega) (by omega),List.range_succ_eq_map,List.map_cons,List.map_map,List.append_assoc];congr 2;show c i::_=c (i+0)::_;congr 1;exact List.map_congr_left λj _=>by grind
theorem tO{b:Type}(F:b->K)(d:b):∀l:List b,S.ca (λk=>F (l.getD k d)) l.length=gi S F l
 |[]=>rfl
 |a::l=>by
  rw[List.length_cons,oS (S:=S) 1 (n:=l.length+1) (by omega)];show S.add (S.add S.zero (F a)) _=S.add (F a) _;rw[S.zero_add,<-tO F d l]
  grind
theorem CK{l:List K}{t:Nat}(a b:K)(d:t<l.length):∃c,gP (aq S) l t a b=some c/\c.length=l.length/\∀p,vec S c p=S.add (vec S l p) (if t=p then S.mul a b else S.zero):=by
 refine⟨l.set t (S.add (vec S l t) (S.mul a b)),rfl,length_set,λp=>?_⟩;rw[uY _ d];by_cases e:t=p
 ·grind
 ·rw[if_neg λh=>e h.symm,if_neg e,add_zero]
def hO(i o:Int)(p:Nat)(a:jy K):Prop:=a.i=i/\a.o=o/\a.t=p
instance (i o:Int) (p:Nat) (a:jy K):Decidable (hO i o p a):=inferInstanceAs (Decidable (_/\_/\_))
def bI(M:gC K)(q:Nat):List (jy K):=(M.bP.getD q dU).arcs
def k6(M:gC K):Prop:=∀s∈M.bP,∀a∈s.arcs,a.t<M.bP.length
theorem k6.at_{M:gC K}(g:k6 M){q k:Nat}(a:k<(bI M q).length):((bI M q).getD k (ct (aq S))).t<M.bP.length:=by
 unfold bI at*;rcases tL (M:=M) q with e|e
 ·rw[e]at a;exact absurd a (Nat.not_lt_zero _)
 ·rw[gD,gE a];exact g _ e _ (getElem_mem a)
theorem S4{M:gC K}(g:k6 M)(v:List K)(i o:Int):∃l,k9 (aq S) M v i o=some l/\l.length=M.bP.length/\∀p,p<M.bP.length->vec S l p=S.ca (λq=>gi S (λa=>if hO i o p a then S.mul (vec S v q) a.w else S.zero) (bI M q)) M.bP.length:=by
 obtain⟨l,y,A,w⟩:=mN (S:=S) (f:=qU (aq S) M v i o) (n:=M.bP.length) (c:=λq p=>gi S (λa=>if hO i o p a then S.mul (vec S v q) a.w else S.zero) (bI M q)) M.bP.length 0 (bE (aq S) M.bP.length) (λl q _ _ b=>by
  unfold qU;have t:(aq S).yC (v.getD q (aq S).zero)=true↔vec S v q=S.zero:=uU;by_cases r:vec S v q=S.zero
  ·rw[if_pos (t.2 r)];refine⟨l,rfl,b,λp _=>?_⟩;rw[r,ff (g:=λ_=>S.zero) λa _=>by split;exact S.zero_mul _;rfl,rC,add_zero]
  ·rw[if_neg λh=>r (t.1 h)];obtain⟨m,u,C,z⟩:=mN (S:=S) (f:=jZ (aq S) i o (vec S v q) (bI M q)) (n:=M.bP.length) (c:=λk p=>if hO i o p ((bI M q).getD k (ct (aq S)))then S.mul (vec S v q) ((bI M q).getD k (ct (aq S))).w else S.zero) (bI M q).length 0 l (λl k _ F b=>by
    unfold jZ;by_cases d:((bI M q).getD k (ct (aq S))).i≠i\/((bI M q).getD k (ct (aq S))).o≠o
    ·rw[if_pos d];exact⟨l,rfl,b,λp _=>by rw[if_neg λh=>d.elim (λx=>x h.1) (λx=>x h.2.1),add_zero]⟩
    ·rw[if_neg d];obtain⟨m,D,B,E⟩:=CK (S:=S) (l:=l) (vec S v q) ((bI M q).getD k (ct (aq S))).w (by rw[b];exact g.at_ (S:=S) (q:=q) (k:=k) (by omega));refine⟨m,D,by rw[B,b],λp _=>?_⟩;rw[E p];congr 1;by_cases e:((bI M q).getD k (ct (aq S))).t=p
     ·rw[if_pos e,if_pos];exact⟨Classical.byContradiction λx=>d (.inl x),Classical.byContradiction λx=>d (.inr x),e⟩
     ·rw[if_neg e,if_neg λh=>e h.2.2]) b
   refine⟨m,u,C,λp s=>?_⟩;rw[z p s];congr 1;have:=tO (S:=S) (λa=>if hO i o p a then S.mul (vec S v q) a.w else S.zero) (ct (aq S)) (bI M q);rw[<-this];exact ax λj _=>by rw[Nat.zero_add]) length_replicate
 refine⟨l,y,A,λp s=>?_⟩;rw[w p s];have:vec S (bE (aq S) M.bP.length) p=S.zero:=qX _ _;rw[this,S.zero_add]
 grind
theorem mJ(c:Nat->A)(d:A){n i:Nat}(h:i<n):((List.range n).map c).getD i d=c i:=by grind
theorem X5(a b:List K):∃l,nX (aq S) a b=some l/\l.length=a.length/\∀p,p<a.length->vec S l p=S.add (vec S a p) (vec S b p):=by
 have h:=pf (f:=ye (aq S) a b) (c:=λi=>S.add (vec S a i) (vec S b i)) a.length 0 [] (λl k _ _=>rfl);refine⟨_,h,by simp,λp d=>?_⟩
 simp_all[vec]
def eW(S:aP K)(M:gC K):cj K:=⟨M.bP.length,λq=>(M.bP.getD q dU).fin.getD S.zero,λq=>(bI M q).map λa=>⟨a.i,a.o,a.w,a.t⟩⟩
def zU(S:aP K)(M:gC K)(q p:Nat):K:=gi S (λa=>if hO 0 0 p a then a.w else S.zero) (bI M q)
theorem Jt(M:gC K)(q p:Nat):cj.IL S (eW S M) q p=zU S M q p:=by
 show gi S _ ((bI M q).map _)=_;rw[rr];rfl
theorem Hn(B:List (List K))(i j:Nat):bW (aq S) B i j=vec S (B.getD i []) j:=rfl
theorem XX{M:gC K}(g:k6 M):∃A,bg (hH (aq S) M) M.bP.length 0 []=some A/\A.length=M.bP.length/\∀q p,q<M.bP.length->p<M.bP.length->bW (aq S) A q p=zU S M q p:=by
 have e:∀q,∃r,bg (fo (aq S) (bI M q)) (bI M q).length 0 (bE (aq S) M.bP.length)=some r/\∀p,p<M.bP.length->vec S r p=zU S M q p:=λq=>by
  obtain⟨o,m,y,t⟩:=mN (S:=S) (f:=fo (aq S) (bI M q)) (n:=M.bP.length) (c:=λk p=>if hO 0 0 p ((bI M q).getD k (ct (aq S)))then((bI M q).getD k (ct (aq S))).w else S.zero) (bI M q).length 0 (bE (aq S) M.bP.length) (λl k _ w i=>by
   unfold fo;by_cases d:((bI M q).getD k (ct (aq S))).i≠0\/((bI M q).getD k (ct (aq S))).o≠0
   ·rw[if_pos d];exact⟨l,rfl,i,λp _=>by rw[if_neg λh=>d.elim (λx=>x h.1) (λx=>x h.2.1),add_zero]⟩
   ·rw[if_neg d];have v:((bI M q).getD k (ct (aq S))).t<l.length:=by rw[i];exact g.at_ (S:=S) (q:=q) (k:=k) (by omega)
    refine⟨_,rfl,by rw[length_set,i],λp _=>?_⟩;have:=uY (S:=S) (p:=p) (S.add (vec S l ((bI M q).getD k (ct (aq S))).t) ((bI M q).getD k (ct (aq S))).w) v;refine this.trans ?_;by_cases b:p=((bI M q).getD k (ct (aq S))).t
    ·rw[if_pos b,if_pos,b];exact⟨Classical.byContradiction λx=>d (.inl x),Classical.byContradiction λx=>d (.inr x),b.symm⟩
    ·rw[if_neg b,if_neg λh=>b h.2.2.symm,add_zero]) length_replicate
  refine⟨o,m,λp b=>?_⟩;rw[t p b];have u:vec S (bE (aq S) M.bP.length) p=S.zero:=qX _ _;rw[u,S.zero_add];have:=tO (S:=S) (λa=>if hO 0 0 p a then a.w else S.zero) (ct (aq S)) (bI M q);unfold zU;rw[<-this];exact ax λj _=>by rw[Nat.zero_add]
 have h:=pf (f:=hH (aq S) M) (c:=λq=>(e q).choose) M.bP.length 0 [] (λl k _ _=>by
  unfold hH;have:=(e k).choose_spec.1;unfold bI at this;rw[this];rfl)
 refine⟨_,h,by simp,λq p s b=>?_⟩;rw[Hn,List.nil_append,mJ _ _ s,Nat.zero_add]
 grind
theorem Hs(B:List (List K))(k:Nat)(a:Nat->Nat->K)(m:k<B.length)(g:∀i j,i<B.length->j<B.length->bW (aq S) B i j=elim S a k i j):∃C,fz (aq S) B k=some C/\C.length=B.length/\∀i j,i<B.length->j<B.length->bW (aq S) C i j=elim S a (k+1) i j:=by
 have n:∀i j,i<B.length->j<B.length->∀r,cF (aq S) B (S.star (bW (aq S) B k k)) k i r j=some (r++[elim S a (k+1) i j]):=λi j b d r=>by
  unfold cF;have e:elim S a (k+1) i j=S.add (bW (aq S) B i j) (S.mul (S.mul (bW (aq S) B i k) (S.star (bW (aq S) B k k))) (bW (aq S) B k j)):=by
   rw[g i j b d,g i k b m,g k k m m,g k j m d];rfl
  by_cases c:((aq S).yC (bW (aq S) B i k)||(aq S).yC (bW (aq S) B k j))=true
  ·rw[if_pos c,e];congr 3;rw[Bool.or_eq_true,uU,uU]at c;rcases c with c|c
   ·rw[c,S.zero_mul,S.zero_mul,add_zero]
   grind[mul_zero,add_zero]
  ·rw[if_neg c,e];rfl
 have o:∀i,i<B.length->bg (cF (aq S) B (S.star (bW (aq S) B k k)) k i) B.length 0 []=some ((List.range B.length).map λj=>elim S a (k+1) i j):=λi b=>by
  have:=pf (f:=cF (aq S) B (S.star (bW (aq S) B k k)) k i) (c:=λj=>elim S a (k+1) i j) B.length 0 [] (λl j _ d=>n i j b (by omega) l)
  grind
 have h:=pf (f:=jb (aq S) B (S.star (bW (aq S) B k k)) k) (c:=λi=>(List.range B.length).map λj=>elim S a (k+1) i j) B.length 0 [] (λl i _ b=>by grind[jb]);refine⟨_,h,by simp,λi j b d=>?_⟩;rw[Hn,List.nil_append,mJ _ _ b,Nat.zero_add];exact mJ _ _ d
theorem Jm(a:Nat->Nat->K):∀(m k:Nat)(B:List (List K)),k+m=B.length->(∀i j,i<B.length->j<B.length->bW (aq S) B i j=elim S a k i j)->∃C,bg (fz (aq S)) m k B=some C/\C.length=B.length/\∀i j,i<B.length->j<B.length->bW (aq S) C i j=elim S a (k+m) i j
 |0,k,B,_,b=>⟨B,rfl,rfl,b⟩
 |m+1,k,B,d,b=>by
  obtain⟨C,e,f,c⟩:=Hs B k a (by omega) b;obtain⟨D,g,o,l⟩:=Jm a m (k+1) C (by omega) (λi j h n=>c i j (by omega) (by omega))
  grind[bg]
theorem Jg:∀(m k:Nat)(B:List (List K)),k+m=B.length->(∀i,i<B.length->(B.getD i []).length=B.length)->∃C,bg (ou (aq S)) m k B=some C/\∀i j,i<B.length->j<B.length->bW (aq S) C i j=if i=j/\k<=i then S.add S.one (bW (aq S) B i j)else bW (aq S) B i j
 |0,k,B,f,b=>⟨B,rfl,λi j a d=>by grind⟩
 | m+1,k,B,f,b=>by
  have n:k<B.length:=by omega
  obtain⟨C,g,l⟩:=Jg m (k+1) (B.set k ((B.getD k []).set k (S.add S.one (bW (aq S) B k k)))) (by rw[length_set];omega) (λi a=>by
   rw[length_set]at a;rw[gD,List.getElem?_set,length_set];by_cases e:k=i
   ·subst e;rw[if_pos rfl,if_pos a,getD_some,length_set];exact b k a
   ·rw[if_neg e,<-gD];exact b i a)
  refine⟨C,g,λi j a d=>?_⟩;rw[l i j (by rw[length_set];exact a) (by rw[length_set];exact d)];have e:bW (aq S) (B.set k ((B.getD k []).set k (S.add S.one (bW (aq S) B k k)))) i j=if i=k/\j=k then S.add S.one (bW (aq S) B k k)else bW (aq S) B i j:=by
   rw[Hn,gD,List.getElem?_set];by_cases e:k=i
   ·subst e;rw[if_pos rfl,if_pos a,getD_some,uY _ (by rw[b k a];exact a)];by_cases c:j=k
    ·rw[if_pos c,if_pos ⟨rfl,c⟩]
    ·rw[if_neg c,if_neg λh=>c h.2];rfl
   ·rw[if_neg e,<-gD,if_neg λh=>e h.1.symm];rfl
  grind
theorem C3:∀{m k:Nat}{B C:List (List K)},bg (fz (aq S)) m k B=some C->(∀i,i<B.length->(B.getD i []).length=B.length)->∀i,i<C.length->(C.getD i []).length=C.length
 |0,k,B,C,h,y=>by obtain rfl:=oI h;omega
 | m+1,k,B,C,h,y=>by
  unfold bg at h
  cases e:fz (aq S) B k with
  |none=>grind
  | some D=>
   rw[e]at h;refine C3 h ?_;have t:∀i r j,∃c,cF (aq S) B (S.star (bW (aq S) B k k)) k i r j=some (r++[c]):=λi r j=>by
    unfold cF;split
    ·exact⟨_,rfl⟩
    ·exact⟨_,rfl⟩
   have w:∀i n d (r:List K),∃b,bg (cF (aq S) B (S.star (bW (aq S) B k k)) k i) n d r=some b/\b.length=r.length+n:=λi n=>by
    induction n with
    |zero=>exact λd r=>⟨r,rfl,rfl⟩
    |succ n s=>
     intro d r;obtain⟨c,t⟩:=t i r d;obtain⟨b,g,l⟩:=s (d+1) (r++[c]);exact⟨b,by unfold bg;rw[t];exact g,by rw[l];simp;omega⟩
   have o:∀n f (E:List (List K)),(∀x∈E,x.length=B.length)->∃a,bg (jb (aq S) B (S.star (bW (aq S) B k k)) k) n f E=some a/\a.length=E.length+n/\∀x∈a,x.length=B.length:=λn=>by
    induction n with
    |zero=>exact λf E p=>⟨E,rfl,rfl,p⟩
    | succ n s=>
     intro f E p;obtain⟨b,g,l⟩:=w f B.length 0 [];obtain⟨a,u,v,z⟩:=s (f+1) (E++[b]) (λx q=>by
      rcases mem_append.1 q with h|h
      ·exact p x h
      ·rw[mem_singleton.1 h,l];simp)
     exact⟨a,by unfold bg jb;rw[g];exact u,by rw[v];simp;omega,z⟩
   obtain⟨a,g,l,u⟩:=o B.length 0 [] (λx q=>by cases q);have v:fz (aq S) B k=some a:=g
   grind
theorem S3{A:List (List K)}(a:∀i,i<A.length->(A.getD i []).length=A.length):∃B,jY (aq S) A=some B/\∀i j,i<A.length->j<A.length->bW (aq S) B i j=if i=j then S.add S.one (elim S (bW (aq S) A) A.length i j)else elim S (bW (aq S) A) A.length i j:=by
 obtain⟨C,b,e,d⟩:=Jm (S:=S) (bW (aq S) A) A.length 0 A (Nat.zero_add _) (λi j _ _=>rfl);have c:=C3 b a;obtain⟨B,g,f⟩:=Jg (S:=S) A.length 0 C (by omega) c
 simp_all[jY]
end
section
variable {K:Type} {S:aP K}
theorem S0{v:List K}{B:List (List K)}:∃l,gk (aq S) v (some B)=some l/\l.length=v.length/\∀p,p<v.length->vec S l p=S.ca (λq=>S.mul (vec S v q) (bW (aq S) B q p)) v.length:=by
 obtain⟨l,m,r,i⟩:=mN (S:=S) (f:=λl q=>bg (fX (aq S) v B q) v.length 0 l) (n:=v.length) (c:=λq p=>S.mul (vec S v q) (bW (aq S) B q p)) v.length 0 (bE (aq S) v.length) (λl q _ _ a=>by
  obtain⟨b,h,w,o⟩:=mN (S:=S) (f:=fX (aq S) v B q) (n:=v.length) (c:=λk p=>if k=p then S.mul (vec S v q) (bW (aq S) B q k)else S.zero) v.length 0 l (λl k _ z a=>by
   unfold fX;by_cases c:((aq S).yC (v.getD q (aq S).zero)||(aq S).yC (bW (aq S) B q k))=true
   ·rw[if_pos c];refine⟨l,rfl,a,λp _=>?_⟩;have u:S.mul (vec S v q) (bW (aq S) B q k)=S.zero:=by
     rw[Bool.or_eq_true,uU,uU]at c;rcases c with c|c
     ·have c:vec S v q=S.zero:=c;rw[c,S.zero_mul]
     ·have c:bW (aq S) B q k=S.zero:=c;rw[c,mul_zero]
    rw[u];split<;>rw[add_zero]
   ·rw[if_neg c];obtain⟨b,x,s,y⟩:=CK (S:=S) (l:=l) (t:=k) (vec S v q) (bW (aq S) B q k) (by omega);exact⟨b,x,by rw[s,a],λp _=>y p⟩) a
  refine⟨b,h,w,λp d=>?_⟩;rw[o p d];congr 1;rw[ax (g:=λj=>if p<=j/\j<p+1 then S.mul (vec S v q) (bW (aq S) B q j)else S.zero) λj _=>by
   rw[Nat.zero_add];by_cases e:j=p
   ·rw[if_pos e,if_pos (by omega)]
   ·rw[if_neg e,if_neg (by omega)]]
  rw[uM (λj=>S.mul (vec S v q) (bW (aq S) B q j)) (by omega:p+1<=v.length)];exact S.zero_add _) length_replicate
 refine⟨l,m,r,λp d=>?_⟩;rw[i p d];have:vec S (bE (aq S) v.length) p=S.zero:=qX _ _;rw[this,S.zero_add]
 grind
theorem XW(M:gC K)(v:List K)(i:v.length=M.bP.length):o0 (aq S) M v=some (dot S (vec S v) (eW S M).fin v.length):=by
 obtain⟨l,b,j,d⟩:=mN (S:=S) (f:=jW (aq S) M v) (n:=1) (c:=λq p=>S.mul (vec S v q) ((eW S M).fin q)) v.length 0 [S.zero] (λl q _ _ e=>by
  unfold jW;show ∃a,(match (M.bP.getD q dU).fin with|none=>some l|some f=>gP (aq S) l 0 (v.getD q (aq S).zero) f)=some a/\a.length=1/\∀p,p<1->vec S a p=S.add (vec S l p) (S.mul (vec S v q) ((M.bP.getD q dU).fin.getD S.zero))
  cases (M.bP.getD q dU).fin with
  |none=>exact⟨l,rfl,e,λp _=>by show _=S.add _ (S.mul _ S.zero);rw[mul_zero,add_zero]⟩
  |some f=>
   obtain⟨a,g,k,h⟩:=CK (S:=S) (l:=l) (t:=0) (vec S v q) f (by omega);refine⟨a,g,by omega,λp m=>?_⟩;rw[h p,if_pos (by omega)];rfl) rfl
 unfold o0;have b:bg (jW (aq S) M v) v.length 0 [(aq S).zero]=some l:=b;rw[b];show some (vec S l 0)=_;rw[d 0 (by omega)];show some (S.add S.zero _)=_;rw[S.zero_add]
 simp_all[dot]
noncomputable def Hm(S:aP K)(M:gC K)(x y:List Int)(i j q:Nat):K:=cj.val S (eW S M) (x.drop i) (y.drop j) q
def jk(S:aP K)(M:gC K)(x y:List Int)(i j q:Nat):K:=cj.tail S (eW S M) (cj.val S (eW S M)) (x.drop i) (y.drop j) q
theorem Mf{M:gC K}(g:k6 M){r:Option (List (List K))}(f:ee (aq S) M=some r):∀v:List K,v.length=M.bP.length->∃l,gk (aq S) v r=some l/\l.length=M.bP.length/\∀x y i j,dot S (vec S v) (Hm S M x y i j) M.bP.length=dot S (vec S l) (jk S M x y i j) M.bP.length:=by
 obtain⟨A,P,Q,R⟩:=XX (S:=S) g;unfold ee at f;rw[P]at f;dsimp only at f;have O:∀x y i j,Hm S M x y i j=pT S (cj.IL S (eW S M)) M.bP.length (jk S M x y i j):=λx y i j=>cj.IV (S:=S) (M:=eW S M) (x.drop i) (y.drop j);split at f
 ·split at f
  ·grind
  ·have T:∀i,i<A.length->(A.getD i []).length=A.length:=by
    have L:∀(m k:Nat)(E t:List (List K)),(∀x∈E,x.length=M.bP.length)->bg (hH (aq S) M) m k E=some t->∀x∈t,x.length=M.bP.length:=λm=>by
     induction m with
     |zero=>intro k E t G e;obtain rfl:=oI e;exact G
     | succ m I=>
      intro k E t G e;unfold bg at e
      cases o:hH (aq S) M E k with
      |none=>rw[o]at e;cases e
      | some F=>
       rw[o]at e;refine I (k+1) F t ?_ e;unfold hH at o
       cases C:bg (fo (aq S) (M.bP.getD k dU).arcs) (M.bP.getD k dU).arcs.length 0 (bE (aq S) M.bP.length)with
       |none=>rw[C]at o;cases o
       | some r=>
        rw[C]at o;obtain rfl:=oI o;have f:∀(m D:Nat)(l u:List K),bg (fo (aq S) (M.bP.getD k dU).arcs) m D l=some u->u.length=l.length:=λm=>by
         induction m with
         |zero=>intro D l u e;obtain rfl:=oI e;rfl
         | succ m I=>
          intro D l u e;unfold bg at e
          cases s:fo (aq S) (M.bP.getD k dU).arcs l D with
          |none=>rw[s]at e;cases e
          |some l2=>
           rw[s]at e;rw[I _ _ _ e];unfold fo at s;split at s
           ·obtain rfl:=oI s;rfl
           ·have s:some (l.set _ _)=some l2:=s;obtain rfl:=oI s;exact length_set
        intro x H;rcases mem_append.1 H with h|h
        ·exact G x h
        ·rw[mem_singleton.1 h,f _ _ _ _ C];exact length_replicate
    intro i z;rw[gD,gE z,getD_some,Q];exact L _ _ _ _ (λx H=>by cases H) P _ (getElem_mem z)
   obtain⟨B,W,h5⟩:=S3 (S:=S) T;rw[W]at f;obtain rfl:=oI f;intro v N;obtain⟨l,o,C,s⟩:=S0 (S:=S) (v:=v) (B:=B);refine⟨l,o,by omega,λx y i j=>?_⟩;rw[O];have U:∀q,q<M.bP.length->pT S (cj.IL S (eW S M)) M.bP.length (jk S M x y i j) q=S.ca (λp=>S.mul (bW (aq S) B q p) (jk S M x y i j p)) M.bP.length:=λq w=>by
    have Z:=rq (S:=S) (a:=cj.IL S (eW S M)) (b:=bW (aq S) A) (n:=M.bP.length) (c:=jk S M x y i j) (d:=jk S M x y i j) (λi j z Y=>by rw[R i j z Y,Jt]) (λ_ _=>rfl) q w;rw[Z];have X:∀p,p<M.bP.length->S.mul (bW (aq S) B q p) (jk S M x y i j p)=S.add (if q<=p/\p<q+1 then jk S M x y i j p else S.zero) (S.mul (elim S (bW (aq S) A) M.bP.length q p) (jk S M x y i j p)):=λp hp=>by
     rw[h5 q p (by omega) (by omega),Q];by_cases e:q=p
     ·rw[if_pos e,if_pos (by omega),add_mul,S.one_mul]
     ·rw[if_neg e,if_neg (by omega),S.zero_add]
    rw[ax X,hJ,uM (jk S M x y i j) (by omega:q+1<=M.bP.length)];show S.add (jk S M x y i j q) _=S.add (S.add S.zero (jk S M x y i j (q+0))) _;rw[S.zero_add];rfl
   unfold dot;rw[ax λq w=>by rw[U q w]];rw[ax (g:=λq=>S.ca (λp=>S.mul (S.mul (vec S v q) (bW (aq S) B q p)) (jk S M x y i j p)) M.bP.length) λq _=>by
    rw[<-qp];exact ax λp _=>(S.mul_assoc _ _ _).symm]
   rw[zB]
   grind[ax,vG]
 ·next J=>
  obtain rfl:=oI f;intro v N;refine⟨v,rfl,N,λx y i j=>?_⟩;unfold dot;refine ax λq w=>?_;congr 1;rw[O,AT];rw[ax (g:=λ_=>S.zero) λl _=>by
   rw[Jt];have:zU S M q l=S.zero:=by
    unfold zU;rw[ff (g:=λ_=>S.zero) λa V=>?_,rC];rw[if_neg];rintro⟨c1,c2,_⟩;refine J ?_;unfold oY;refine List.any_eq_true.2 ⟨M.bP.getD q dU,?_,List.any_eq_true.2 ⟨a,V,by grind⟩⟩;rcases tL (M:=M) q with e|e
    ·grind
    ·exact e
   rw[this,S.zero_mul]]
  rw[ei,add_zero]
theorem CV{x:List Int}(c:∀s∈x,s≠0)(i:Nat)(s:Int)(b:Nat)(d:b<=1)(g:i+b<=x.length)(a:s=bT x i b):eT s (x.drop i)=some (x.drop (i+b)):=by
 unfold bT at a;by_cases e:b=1
 ·subst e;rw[if_pos rfl]at a;have f:x.drop i=x.getD i 0::x.drop (i+1):=by
   rw[gD,gE (by omega)];exact drop_eq_getElem_cons (by omega)
  have h:s≠0:=by
   rw[a,gD,gE (by omega)];exact c _ (getElem_mem _)
  simp_all[eT]
 ·rw[if_neg e]at a;obtain rfl:b=0:=by omega
  simp_all[eT]
theorem uT{x:List Int}(f:∀s∈x,s≠0){i:Nat}(g:i<=x.length){s:Int}(h:eT s (x.drop i)=some p):∃b,b<=1/\i+b<=x.length/\s=bT x i b/\p=x.drop (i+b)/\(b=0↔s=0):=by
 unfold eT at h;split at h
 ·next e=>
  obtain rfl:=oI h;exact⟨0,by omega,by omega,by simp_all[bT],rfl,⟨λ_=>e,λ_=>rfl⟩⟩
 ·next e=>
  by_cases a:i<x.length
  ·have d:x.drop i=x.getD i 0::x.drop (i+1):=by
    rw[gD,gE a];exact drop_eq_getElem_cons a
   rw[d]at h;dsimp only at h;split at h
   ·next c=>
    obtain rfl:=oI h;exact⟨1,by omega,by omega,by unfold bT;rw[if_pos rfl];exact c.symm,rfl,⟨λh=>by omega,λh=>absurd h e⟩⟩
   ·cases h
  grind
theorem acH{b c:Nat}{P:Prop}(a:b<=1)(f:c<=1)(d:b=0↔P)(e:c=0↔P):b=c:=by grind
noncomputable def kx(S:aP K)(M:gC K)(x y:List Int)(i j:Nat)(a:jy K)(k:Nat):K:=
 if x.length<i+k%2\/y.length<j+k/2 then S.zero else if a.i=bT x i (k%2)/\a.o=bT y j (k/2)then S.mul a.w (Hm S M x y (i+k%2) (j+k/2) a.t)else S.zero
theorem go_eq{M:gC K}{x:List Int}(m:∀s∈x,s≠0)(t:∀s∈p,s≠0){i j:Nat}(r:i<=x.length)(u:j<=p.length)(a:jy K):cj.go S (cj.val S (eW S M)) (x.drop i) (p.drop j) ⟨a.i,a.o,a.w,a.t⟩=S.ca (λk=>kx S M x p i j a (1+k)) 3:=by
 have F:∀{x:List Int}{i b:Nat},(∀s∈x,s≠0)->b<=1->i+b<=x.length->(bT x i b=0↔b=0):=λ{x i b} m L r=>by
  unfold bT
  grind
 have J:∀k,k=1\/k=2\/k=3->kx S M x p i j a k≠S.zero->i+k%2<=x.length/\j+k/2<=p.length/\a.i=bT x i (k%2)/\a.o=bT p j (k/2):=λk _ h=>by simp_all[kx]
 show(if a.i=0/\a.o=0 then S.zero else match eT a.i (x.drop i),eT a.o (p.drop j)with|some l,some g=>S.mul a.w (cj.val S (eW S M) l g a.t)|_,_=>S.zero)=S.add (S.add (S.add S.zero (kx S M x p i j a 1)) (kx S M x p i j a 2)) (kx S M x p i j a 3);rw[S.zero_add];have d:∀k,k=1\/k=2\/k=3->¬((k%2=0↔a.i=0)/\(k/2=0↔a.o=0))->kx S M x p i j a k=S.zero:=λk C N=>Classical.byContradiction λc=>by grind
 have e:∀k,k=1\/k=2\/k=3->(k%2=0↔a.i=0)->(k/2=0↔a.o=0)->kx S M x p i j a k=(match eT a.i (x.drop i),eT a.o (p.drop j)with|some l,some g=>S.mul a.w (cj.val S (eW S M) l g a.t)|_,_=>S.zero):=λk C O P=>by
  unfold kx;split
  ·next c=>
   cases n:eT a.i (x.drop i)with
   |none=>rfl
   | some l=>
    cases o:eT a.o (p.drop j)with
    |none=>rfl
    |some g=>
     obtain⟨b,G,w,H,E,y⟩:=uT m r n;obtain⟨B,D,z,v,A,I⟩:=uT t u o;omega
  ·next c=>
   split
   ·next f=>
    rw[CV m i _ _ (by omega) (by omega) f.1,CV t j _ _ (by omega) (by omega) f.2];rfl
   ·next f=>
    cases n:eT a.i (x.drop i)with
    |none=>rfl
    | some l=>
     cases o:eT a.o (p.drop j)with
     |none=>rfl
     |some g=>
      obtain⟨b,G,w,H,E,y⟩:=uT m r n;obtain⟨B,D,z,v,A,I⟩:=uT t u o
      grind
 by_cases q:a.i=0
 ·by_cases f:a.o=0
  ·rw[if_pos ⟨q,f⟩,d 1 (by omega) (by omega),d 2 (by omega) (by omega),d 3 (by omega) (by omega),S.zero_add,S.zero_add]
  ·rw[if_neg λh=>f h.2,d 1 (by omega) (by omega),e 2 (by omega) (by omega) (by omega),d 3 (by omega) (by omega),S.zero_add,add_zero]
 ·by_cases f:a.o=0
  ·rw[if_neg λh=>q h.1,e 1 (by omega) (by omega) (by omega),d 2 (by omega) (by omega),d 3 (by omega) (by omega),add_zero,add_zero]
  ·rw[if_neg λh=>q h.1,d 1 (by omega) (by omega),d 2 (by omega) (by omega),e 3 (by omega) (by omega) (by omega),S.zero_add,S.zero_add]
end
variable{i:Nat}{m:Nat}{n:Nat}{j:Nat}
section
variable {K:Type} {S:aP K}
structure oW(M:gC K)(x y:List Int)(T:List (List (List K))):Prop where
 len:T.length=x.length+1
 row:∀i,i<=x.length->(T.getD i []).length=y.length+1
 cell:∀i j,i<=x.length->j<=y.length->(dS T i j).length=M.bP.length
theorem wQ{l:List A}(a:i<l.length)(v d:A)(j:Nat):(l.set i v).getD j d=if j=i then v else l.getD j d:=by grind
section
variable {M:gC K} {x y:List Int} {T:List (List (List K))}
theorem oW.Ah(s:oW M x y T){i j:Nat}(d:i<=x.length)(f:j<=y.length)(v:List K)(a b:Nat):dS (fA T i j v) a b=if a=i/\b=j then v else dS T a b:=by
 unfold dS fA;rw[wQ (by rw[s.len];omega)];by_cases e:a=i
 ·subst e;rw[if_pos rfl,wQ (by rw[s.row a d];omega)];by_cases c:b=j
  ·rw[if_pos c,if_pos ⟨rfl,c⟩]
  ·rw[if_neg c,if_neg λh=>c h.2]
 grind
theorem oW.set(s:oW M x y T){i j:Nat}(d:i<=x.length)(f:j<=y.length){v:List K}(g:v.length=M.bP.length):oW M x y (fA T i j v):=by
 refine⟨by unfold fA;rw[length_set];exact s.len,λa c=>?_,λa b c e=>?_⟩
 ·unfold fA;rw[wQ (by rw[s.len];omega)];split
  ·rw[length_set];exact s.row i d
  ·exact s.row a c
 ·rw[s.Ah d f];split
  ·omega
  ·exact s.cell a b c e
noncomputable def zO(S:aP K)(M:gC K)(x y:List Int)(T:List (List (List K)))(a b:Nat):K:=dot S (vec S (dS T a b)) (Hm S M x y a b) M.bP.length
noncomputable def iY(S:aP K)(M:gC K)(x y:List Int)(T:List (List (List K)))(i j:Nat):K:=S.ca (λa=>S.ca (λb=>if i<a\/(a=i/\j<=b)then zO S M x y T a b else S.zero) (y.length+1)) (x.length+1)
theorem rO{p q:Nat}(i:p<m)(f:q<n)(c:K):S.ca (λa=>S.ca (λb=>if a=p/\b=q then c else S.zero) n) m=c:=by
 have d:∀a,S.ca (λb=>if a=p/\b=q then c else S.zero) n=if p<=a/\a<p+1 then c else S.zero:=λa=>by
  by_cases e:a=p
  ·rw[if_pos (by omega),ax (g:=λb=>if q<=b/\b<q+1 then c else S.zero) λb _=>by grind];rw[uM (λ_=>c) (by omega:q+1<=n)];exact S.zero_add c
  ·rw[if_neg (by omega),ax (g:=λ_=>S.zero) λb _=>if_neg λh=>e h.1,ei]
 rw[ax λa _=>d a,uM (λ_=>c) (by omega:p+1<=m)];exact S.zero_add c
theorem C4(f g:Nat->Nat->K)(m n:Nat):S.ca (λa=>S.ca (λb=>S.add (f a b) (g a b)) n) m=S.add (S.ca (λa=>S.ca (f a) n) m) (S.ca (λa=>S.ca (g a) n) m):=by simp[hJ]
theorem Jp(c:i<=x.length)(d:j<=y.length):iY S M x y T i j=S.add (zO S M x y T i j) (iY S M x y T i (j+1)):=by
 unfold iY;rw[<-rO (S:=S) (p:=i) (q:=j) (m:=x.length+1) (n:=y.length+1) (by omega) (by omega) (zO S M x y T i j),<-C4];refine ax λa _=>ax λb _=>?_;by_cases e:a=i/\b=j
 ·simp_all[if_neg,add_zero]
 ·rw[if_neg e,S.zero_add]
  grind
theorem PA{d:List (List (List K))}{p q:Nat}(r:p<=x.length)(l:q<=y.length)(o:i<p\/(p=i/\j<=q)){c:K}(h:∀a b,a<=x.length->b<=y.length->(i<a\/(a=i/\j<=b))->zO S M x y d a b=S.add (zO S M x y T a b) (if a=p/\b=q then c else S.zero)):iY S M x y d i j=S.add (iY S M x y T i j) c:=by
 unfold iY;have e:=rO (S:=S) (p:=p) (q:=q) (m:=x.length+1) (n:=y.length+1) (by omega) (by omega) c
 conv=>rhs;rw[<-e]
 rw[<-C4];refine ax λa k=>ax λb f=>?_;by_cases g:i<a\/(a=i/\j<=b)
 ·grind
 ·rw[if_neg g,if_neg g,if_neg (by omega),add_zero]
theorem Jo{c:List (List (List K))}(h:∀a b,a<=x.length->b<=y.length->(i<a\/(a=i/\j<=b))->zO S M x y c a b=zO S M x y T a b):iY S M x y c i j=iY S M x y T i j:=by
 unfold iY;refine ax λa e=>ax λb d=>?_
 grind
theorem Mc(i:Nat):iY S M x y T i (y.length+1)=iY S M x y T (i+1) 0:=by
 unfold iY;refine ax λa d=>ax λb c=>?_
 grind
theorem Pz:iY S M x y T (x.length+1) j=S.zero:=by
 unfold iY;rw[ax (g:=λ_=>S.zero) λa c=>?_,ei];rw[ax (g:=λ_=>S.zero) λb _=>if_neg (by omega),ei]
theorem Pw(u v w:Nat->K)(n:Nat):dot S (λp=>S.add (u p) (v p)) w n=S.add (dot S u w n) (dot S v w n):=by grind[hJ,ax,add_mul,dot]
theorem Jl{u v w:Nat->K}(h:∀p,p<n->u p=v p):dot S u w n=dot S v w n:=ax λi a=>by grind
noncomputable def jz(S:aP K)(M:gC K)(x y:List Int)(v:List K)(i j k:Nat):K:=S.ca (λq=>S.mul (vec S v q) (gi S (λa=>kx S M x y i j a k) (bI M q))) M.bP.length
theorem Mg(g:k6 M)(v:List K){i j k:Nat}(r:¬(x.length<i+k%2\/y.length<j+k/2)){s:List K}(n:∀p,p<M.bP.length->vec S s p=S.ca (λq=>gi S (λa=>if hO (bT x i (k%2)) (bT y j (k/2)) p a then S.mul (vec S v q) a.w else S.zero) (bI M q)) M.bP.length):
  dot S (vec S s) (Hm S M x y (i+k%2) (j+k/2)) M.bP.length=jz S M x y v i j k:=by
 unfold jz dot;rw[ax (g:=λp=>S.ca (λq=>gi S (λa=>if hO (bT x i (k%2)) (bT y j (k/2)) p a then S.mul (vec S v q) (S.mul a.w (Hm S M x y (i+k%2) (j+k/2) a.t))else S.zero) (bI M q)) M.bP.length) λp t=>by
  rw[n p t,<-vG];refine ax λq _=>?_;rw[S.mul_comm,<-zA];refine ff λa _=>?_;by_cases c:hO (bT x i (k%2)) (bT y j (k/2)) p a
  ·rw[if_pos c,if_pos c,c.2.2,S.mul_comm,S.mul_assoc]
  ·rw[if_neg c,if_neg c,mul_zero]]
 rw[zB];refine ax λq u=>?_;rw[<-zA];have e:∀l:List (jy K),(∀a∈l,a.t<M.bP.length)->S.ca (λp=>gi S (λa=>if hO (bT x i (k%2)) (bT y j (k/2)) p a then S.mul (vec S v q) (S.mul a.w (Hm S M x y (i+k%2) (j+k/2) a.t))else S.zero) l) M.bP.length=gi S (λa=>S.mul (vec S v q) (kx S M x y i j a k)) l:=λl=>by
  induction l with
  |nil=>intro _;exact ei _
  | cons a l o=>
   intro f;have d:=f a (List.mem_cons_self ..);show S.ca (λp=>S.add (if hO (bT x i (k%2)) (bT y j (k/2)) p a then _ else S.zero) (gi S _ l)) _=S.add _ _;rw[hJ,o λb m=>f b (List.mem_cons_of_mem _ m)];congr 1;unfold kx;dsimp only;rw[if_neg r];by_cases c:a.i=bT x i (k%2)/\a.o=bT y j (k/2)
   ·rw[if_pos c,ax (g:=λp=>if a.t<=p/\p<a.t+1 then S.mul (vec S v q) (S.mul a.w (Hm S M x y (i+k%2) (j+k/2) a.t))else S.zero) λp _=>by
     by_cases e:a.t=p
     ·rw[if_pos ⟨c.1,c.2,e⟩,if_pos (by omega)]
     ·rw[if_neg λh=>e h.2.2,if_neg (by omega)]]
    rw[uM (λ_=>S.mul (vec S v q) (S.mul a.w (Hm S M x y (i+k%2) (j+k/2) a.t))) (by omega:a.t+1<=M.bP.length)];exact S.zero_add _
   ·rw[if_neg c,ax (g:=λ_=>S.zero) λp _=>if_neg λh=>c ⟨h.1,h.2.1⟩,ei,mul_zero]
 refine e _ λa d=>?_;unfold bI at d;rcases tL (M:=M) q with e|e
 ·rw[e]at d;cases d
 ·exact g _ e a d
theorem CZ(g:k6 M)(s:oW M x y T){v:List K}(t:v.length=M.bP.length){i j:Nat}(A:i<=x.length)(C:j<=y.length){k:Nat}(B:k=1\/k=2\/k=3):
  ∃h,pa (aq S) M x y v i j T k=some h/\oW M x y h/\dS h i j=dS T i j/\iY S M x y h i (j+1)=S.add (iY S M x y T i (j+1)) (jz S M x y v i j k):=by
 unfold pa;by_cases c:x.length<i+k%2\/y.length<j+k/2
 ·simp_all[ei,rC,mul_zero,add_zero,jz,kx]
 ·rw[if_neg c];obtain⟨l,n,u,m⟩:=S4 (S:=S) g v (bT x i (k%2)) (bT y j (k/2));rw[n];dsimp only;have f:i+k%2<=x.length:=by omega
  have d:j+k/2<=y.length:=by omega
  obtain⟨r,o,z,D⟩:=X5 (S:=S) (dS T (i+k%2) (j+k/2)) l;rw[o];dsimp only;have p:=s.cell _ _ f d;refine⟨_,rfl,s.set f d (by omega),?_,?_⟩
  ·rw[s.Ah f d,if_neg (by omega)]
  ·refine PA f d (by omega) λa b w q _=>?_;unfold zO;rw[s.Ah f d];by_cases e:a=i+k%2/\b=j+k/2
   ·rw[if_pos e,if_pos e,e.1,e.2,<-Mg g v c m,<-Pw]
    grind[Jl]
   ·rw[if_neg e,if_neg e,add_zero]
theorem XY(g:k6 M)(A:∀s∈x,s≠0)(N:∀s∈y,s≠0){B:Option (List (List K))}(t:ee (aq S) M=some B)(s:oW M x y T){i j:Nat}(d:i<=x.length)(e:j<=y.length):
  ∃l,nf (aq S) M B x y i T j=some l/\oW M x y l/\iY S M x y T i j=S.add (if i=x.length/\j=y.length then dot S (vec S (dS l i j)) (eW S M).fin M.bP.length else S.zero) (iY S M x y l i (j+1)):=by
 obtain⟨v,U,m,u⟩:=Mf g t (dS T i j) (s.cell i j d e);have F:=s.set d e m;obtain⟨Q,Y,r,J,G⟩:=CZ (S:=S) g F m d e (k:=1) (.inl rfl);obtain⟨V,W,w,o,D⟩:=CZ (S:=S) g r m d e (k:=2) (.inr (.inl rfl));obtain⟨n,P,C,p,L⟩:=CZ (S:=S) g w m d e (k:=3) (.inr (.inr rfl));refine⟨n,?_,C,?_⟩
 ·simp_all[nf,bg]
 ·rw[Jp d e];have H:iY S M x y (fA T i j v) i (j+1)=iY S M x y T i (j+1):=Jo λa b _ _ h=>by
   unfold zO;rw[s.Ah d e,if_neg (by omega)]
  have z:dS n i j=v:=by rw[p,o,J,s.Ah d e,if_pos ⟨rfl,rfl⟩]
  rw[L,D,G,H,z];have I:zO S M x y T i j=S.add (if i=x.length/\j=y.length then dot S (vec S v) (eW S M).fin M.bP.length else S.zero) (S.add (S.add (jz S M x y v i j 1) (jz S M x y v i j 2)) (jz S M x y v i j 3)):=by
   unfold zO;rw[u x y i j];have E:∀q,jk S M x y i j q=S.add (if i=x.length/\j=y.length then(eW S M).fin q else S.zero) (S.add (S.add (gi S (λa=>kx S M x y i j a 1) (bI M q)) (gi S (λa=>kx S M x y i j a 2) (bI M q))) (gi S (λa=>kx S M x y i j a 3) (bI M q))):=λq=>by
    show S.add (if x.drop i=[]/\y.drop j=[]then(eW S M).fin q else S.zero) (gi S (cj.go S (cj.val S (eW S M)) (x.drop i) (y.drop j)) ((bI M q).map λa=>⟨a.i,a.o,a.w,a.t⟩))=_;rw[rr,ff λa _=>go_eq A N d e a];congr 1
    ·by_cases c:i=x.length/\j=y.length
     ·grind
     ·rw[if_neg c,if_neg]
      grind[List.drop_eq_nil_iff]
    ·show gi S (λa=>S.add (S.add (S.add S.zero (kx S M x y i j a 1)) (kx S M x y i j a 2)) (kx S M x y i j a 3)) _=_;rw[ff (g:=λa=>S.add (S.add (kx S M x y i j a 1) (kx S M x y i j a 2)) (kx S M x y i j a 3)) λa _=>by rw[S.zero_add],Ey,Ey]
   unfold dot jz;rw[ax λq _=>by rw[E q,S.mul_add,S.mul_add,S.mul_add],hJ,hJ,hJ];congr 1;by_cases c:i=x.length/\j=y.length
   ·grind
   ·rw[if_neg c,ax (g:=λ_=>S.zero) λq _=>by rw[if_neg c,mul_zero],ei]
  rw[I];generalize iY S M x y T i (j+1)=R;generalize jz S M x y v i j 1=X;generalize jz S M x y v i j 2=Z;generalize jz S M x y v i j 3=O;generalize (if i=x.length/\j=y.length then dot S (vec S v) (eW S M).fin M.bP.length else S.zero)=f;rw[S.add_assoc f];congr 1;rw[S.add_comm,<-S.add_assoc,<-S.add_assoc]
theorem Oq(g:k6 M)(d:∀s∈x,s≠0)(f:∀s∈y,s≠0){B:Option (List (List K))}(b:ee (aq S) M=some B){i:Nat}(e:i<=x.length):∀(m j:Nat)(T:List (List (List K))),j+m=y.length+1->oW M x y T->
  ∃a,bg (nf (aq S) M B x y i) m j T=some a/\oW M x y a/\(0<m->iY S M x y T i j=S.add (if i=x.length then dot S (vec S (dS a x.length y.length)) (eW S M).fin M.bP.length else S.zero) (iY S M x y a (i+1) 0))
 |0,j,T,k,s=>⟨T,rfl,s,λh=>absurd h (lt_irrefl 0)⟩
 | m+1,j,T,k,s=>by
  obtain⟨l,t,p,n⟩:=XY g d f b s e (show j<=y.length by omega);obtain⟨o,q,r,u⟩:=Oq g d f b e m (j+1) l (by omega) p;refine⟨o,by grind[bg],r,λ_=>?_⟩;rw[n];by_cases c:m=0
  ·subst c;obtain rfl:=oI q
   simp_all[Mc]
  ·rw[if_neg (by omega),S.zero_add]
   grind
theorem Jq(g:k6 M)(d:∀s∈x,s≠0)(e:∀s∈y,s≠0){B:Option (List (List K))}(b:ee (aq S) M=some B):∀(m i:Nat)(T:List (List (List K))),i+m=x.length+1->oW M x y T->
  ∃a,bg (rL (aq S) M B x y) m i T=some a/\oW M x y a/\(0<m->iY S M x y T i 0=dot S (vec S (dS a x.length y.length)) (eW S M).fin M.bP.length)
 |0,i,T,f,s=>⟨T,rfl,s,λh=>absurd h (lt_irrefl 0)⟩
 | m+1,i,T,f,s=>by
  obtain⟨j,q,n,k⟩:=Oq g d e b (show i<=x.length by omega) (y.length+1) 0 T (by omega) s;obtain⟨l,o,p,r⟩:=Jq g d e b m (i+1) j (by omega) n;refine⟨l,by grind[bg,rL],p,λ_=>?_⟩;rw[k (by omega)];by_cases c:m=0
  ·subst c;obtain rfl:=oI o
   simp_all[Pz,add_zero]
  ·rw[if_neg (by omega),S.zero_add]
   grind
end
theorem Mk{M:gC K}{x y:List Int}(g:k6 M)(C:M.start<M.bP.length)(t:∀s∈x,s≠0)(A:∀s∈y,s≠0){w:K}(h:eK (aq S) M x y=some w):w=S.mul M.lead (cj.val S (eW S M) x y M.start):=by
 unfold eK at h
 cases k:ee (aq S) M with
 |none=>grind
 | some B=>
  rw[k]at h;dsimp only at h;have m:(bE (aq S) M.bP.length).length=M.bP.length:=length_replicate;have f:oW M x y (List.replicate (x.length+1) (List.replicate (y.length+1) (bE (aq S) M.bP.length))):=by
   have e:∀i,i<=x.length->(List.replicate (x.length+1) (List.replicate (y.length+1) (bE (aq S) M.bP.length))).getD i []=List.replicate (y.length+1) (bE (aq S) M.bP.length):=λi d=>by
    rw[gD,List.getElem?_replicate,if_pos (by omega)];rfl
   refine⟨length_replicate,λi d=>by rw[e i d];exact length_replicate,λi j d D=>?_⟩;unfold dS;rw[e i d,gD,List.getElem?_replicate,if_pos (by omega)];exact m
  have z:oW M x y (kE (aq S) M x y):=f.set (Nat.zero_le _) (Nat.zero_le _) (by rw[length_set];exact m);obtain⟨T,u,l,r⟩:=Jq g t A k (x.length+1) 0 (kE (aq S) M x y) (by omega) z;rw[u]at h;dsimp only at h;rw[XW M _ (l.cell _ _ (Nat.le_refl _) (Nat.le_refl _)),l.cell _ _ (Nat.le_refl _) (Nat.le_refl _),<-r (by omega)]at h;obtain rfl:=oI h;have o:∀a b,a<=x.length->b<=y.length->zO S M x y (kE (aq S) M x y) a b=if a=0/\b=0 then S.mul M.lead (cj.val S (eW S M) x y M.start)else S.zero:=λa b v n=>by
   unfold zO kE;rw[f.Ah (Nat.zero_le _) (Nat.zero_le _)];by_cases c:a=0/\b=0
   ·rw[if_pos c,if_pos c,c.1,c.2];unfold dot;rw[ax (g:=λq=>if M.start<=q/\q<M.start+1 then S.mul M.lead (cj.val S (eW S M) x y q)else S.zero) λq _=>by
     have:=uY (S:=S) (p:=q) M.lead (show M.start<(bE (aq S) M.bP.length).length by omega);rw[this];by_cases e:q=M.start
     ·rw[if_pos e,if_pos (by omega)];rfl
     ·rw[if_neg e,if_neg (by omega)];have:vec S (bE (aq S) M.bP.length) q=S.zero:=qX _ _;rw[this,S.zero_mul]]
    rw[uM (λq=>S.mul M.lead (cj.val S (eW S M) x y q)) (by omega:M.start+1<=M.bP.length)];exact S.zero_add _
   ·rw[if_neg c,if_neg c];unfold dot;rw[ax (g:=λ_=>S.zero) λq _=>?_,ei];unfold dS;have e:(List.replicate (x.length+1) (List.replicate (y.length+1) (bE (aq S) M.bP.length))).getD a []=List.replicate (y.length+1) (bE (aq S) M.bP.length):=by
     rw[gD,List.getElem?_replicate,if_pos (by omega)];rfl
    rw[e,gD,List.getElem?_replicate,if_pos (by omega)];have:vec S (bE (aq S) M.bP.length) q=S.zero:=qX _ _;show S.mul (vec S (bE (aq S) M.bP.length) q) _=_;rw[this,S.zero_mul]
  unfold iY;rw[ax (g:=λa=>S.ca (λb=>if a=0/\b=0 then S.mul M.lead (cj.val S (eW S M) x y M.start)else S.zero) (y.length+1)) λa v=>ax λb n=>by rw[if_pos (by omega),o a b (by omega) (by omega)]];simp[rO]
end
end Go.Num
end
section
namespace Go.Proofs.YtaaichlgdgjgjaaGreatDoor
open Go Go.Ab Go.RowKit
theorem YN:(((Tryz.prog.funcs.toList.drop 0).take 40).all λf=>fU f)=true:=by kernel_rfl
theorem YO:(((Tryz.prog.funcs.toList.drop 40).take 40).all λf=>fU f)=true:=by kernel_rfl
theorem YP:(((Tryz.prog.funcs.toList.drop 80).take 40).all λf=>fU f)=true:=by kernel_rfl
theorem YQ:(((Tryz.prog.funcs.toList.drop 120).take 40).all λf=>fU f)=true:=by kernel_rfl
theorem YR:(((Tryz.prog.funcs.toList.drop 160).take 40).all λf=>fU f)=true:=by kernel_rfl
theorem YS:(((Tryz.prog.funcs.toList.drop 200).take 40).all λf=>fU f)=true:=by kernel_rfl
theorem YT:(((Tryz.prog.funcs.toList.drop 240).take 40).all λf=>fU f)=true:=by kernel_rfl
theorem Qv:Tryz.prog.funcs.toList.length=259:=by kernel_rfl
theorem Ua(i:Nat)(c:Func)(h:Tryz.prog.funcs.toList[i]?=some c):fU c=true:=by
 have b:∀a,((Tryz.prog.funcs.toList.drop a).take 40).all (λf=>fU f)=true->a<=i->i<a+40->fU c=true:=λa g d e=>by
  refine all_eq_true.1 g c (List.mem_of_getElem? (i:=i-a) ?_);rw[List.getElem?_take,if_pos (by omega),List.getElem?_drop,show a+(i-a)=i by omega];exact h
 have j:i<259:=by
  have:=(List.getElem?_eq_some_iff.1 h).1;rw[Qv]at this;exact this
 by_cases m:i<40
 ·exact b 0 YN (by omega) (by omega)
 by_cases d:i<80
 ·exact b 40 YO (by omega) (by omega)
 by_cases e:i<120
 ·exact b 80 YP (by omega) (by omega)
 by_cases k:i<160
 ·exact b 120 YQ (by omega) (by omega)
 by_cases l:i<200
 ·exact b 160 YR (by omega) (by omega)
 by_cases n:i<240
 ·exact b 200 YS (by omega) (by omega)
 exact b 240 YT (by omega) (by omega)
theorem QY:(Tryz.prog.funcs.toList.all λf=> !(f.name == "runtime.NumGoroutine"))=true:=by kernel_rfl
theorem Pk:HA Tryz.prog:={
 names:=λ_ a h=>by
  have b:a∈Tryz.prog.funcs.toList:=by
   rw[<-Array.getElem?_toList]at h;exact List.mem_of_getElem? h
  have:=all_eq_true.1 QY a b;simpa using this
 aaQ:=λf a h=>Ua f a (by rw[Array.getElem?_toList];exact h) }
def NO:Code->Code
 |.seq a _=>a
 |c=>c
def II:Code->Code
 |.seq _ b=>b
 |c=>c
noncomputable def Gf:Code:=(Tryz.f166.body).getD .skip
theorem HU(a:Array Value)(w:World)(h:a.size=2):CallsDIn Fence.wide 0 Tryz.prog 183 a .returning w λe c b=>(∃v,e = .returned v)/\c = .returning/\Below w.heap.size w b/\w.drawn<=b.drawn:=
 YY (n:=2) Tryz.func183 rfl rfl (by kernel_rfl) a w h
end Go.Proofs.YtaaichlgdgjgjaaGreatDoor
end
section
namespace Go.Proofs.YtaaichlgdgjgjaaGreatDoor
open Go Go.Ab Go.Num
def XR:Nat->Bool:=λg=>Nat.beq g 1
noncomputable def prS:FuncId->Option vN:=λf=>TU (Nat.beq f 81) (some El) (TU (Nat.beq f 222) (some rk) (TU (Nat.beq f 226) (some pN) (TU (Nat.beq f 166) (some (xz Tryz.prog XR Tryz.f166 (NO Gf) (II (II Gf)) 5)) none)))
noncomputable def SS:Sx:=⟨Tryz.prog,XR,prS⟩
theorem afx:aG Tryz.prog 22=some 1:=by kernel_rfl
abbrev lI(h:ae)(p:Addr)(K:Int->Prop):Prop:=xI .i64 (aj SS.P 3 h (.pointer (some p))) K
abbrev lS(h:ae)(p:Addr)(K:List UInt8->Prop):Prop:=xS (aj SS.P 9 h (.pointer (some p))) K
abbrev lB(h:ae)(p:Addr)(K:Bool->Prop):Prop:=xB (aj SS.P 4 h (.pointer (some p))) K
abbrev lL(t:TypeId)(h:ae)(p:Addr)(K:Option Addr->Nat->Nat->Prop):Prop:=xL (aj SS.P t h (.pointer (some p))) K
abbrev lA(t:TypeId)(h:ae)(v:Value)(K:List Value->Prop):Prop:=xA (aj SS.P t h v) K
abbrev fP(t:TypeId)(v:Value)(i:Nat)(K:Addr->Prop):Prop:=xP (aF SS.P t v i) K
abbrev iP(t:TypeId)(v i:Value)(K:Addr->Prop):Prop:=xP (aB SS.P t v i) K
variable{s:List UInt8}{t:List UInt8}{z:Int}{v:Value}{w:Value}{h:ae}{Q:VH}{b:Bool}
noncomputable def Qm:FD:=cP Tryz.f191 []
theorem MC(l m:LB)(h:ae)(Q:VH)(e:FW SS 204 [(strOf l),(strOf m)] h λc d=>yB c λb=>au (!b) (Q (.tuple ⟨[(strOf l),(.bool false)]⟩) d) (xS (bK SS.P 9 (strOf l) (some (.int .i64 ((m:LB).length:Int))) none none d) λa=>Q (.tuple ⟨[(strOf a),(.bool true)]⟩) d)):FW SS 191 [(strOf l),(strOf m)] h Q:=cV Qm Tryz.func191 (ai e)
noncomputable def T5:FD:=cP Tryz.f177 []
theorem Qn(l m:LB)(h:ae)(Q:VH)(e:FW SS 191 [(strOf l),(strOf m)] h λc d=>∃b:LB,∃a:Bool,c=(.tuple ⟨[(strOf b),(.bool a)]⟩)/\Q (.tuple ⟨[(strOf b),(.bool a)]⟩) d):FW SS 177 [(strOf l),(strOf m)] h Q:=cV T5 Tryz.func177 (ai e)
noncomputable def MT:FD:=cP Tryz.f214 []
theorem Km(l:LB)(c:Int)(h:ae)(Q:VH)(d:FW SS 226 [(strOf l),(.int .u8 c)] h λb c=>yI .i64 b λa=>Q (.int .i64 a) c):FW SS 214 [(strOf l),(.int .u8 c)] h Q:=cV MT Tryz.func214 (ai d)
noncomputable def Uy:FD:=cP Tryz.f205 []
theorem QA(l:LB)(h:ae)(Q:VH)(e:au (([47]:LB)==l) (Q (.int .i64 0) h) (xI .u8 (bU SS.P 9 (strOf [47]) (.int .i64 0)) λd=>FW SS 214 [(strOf l),(.int .u8 d)] h λb c=>yI .i64 b λa=>Q (.int .i64 a) c)):FW SS 205 [(strOf l),(strOf [47])] h Q:=cV Uy Tryz.func205 (ai e)
noncomputable def abG:FD:=cP Tryz.f192 []
theorem YH(l:LB)(h:ae)(Q:VH)(f:FW SS 205 [(strOf l),(strOf [47])] h λd e=>yI .i64 d λc=>au (decide ((c:Int)>=0)) (xS (bK SS.P 9 (strOf l) none (some (.int .i64 c)) none (room e 12)) λb=>xS (bK SS.P 9 (strOf l) (some (.int .i64 (wrap .i64 (c+1)))) none none (room e 12)) λa=>Q (.tuple ⟨[(strOf b),(strOf a),(.bool true)]⟩) (room e 12)) (Q (.tuple ⟨[(strOf l),(strOf []),(.bool false)]⟩) e)):FW SS 192 [(strOf l),(strOf [47])] h Q:=cV abG Tryz.func192 (ai f)
noncomputable def adB:FD:=cP Tryz.f178 []
theorem abH(l:LB)(h:ae)(Q:VH)(f:FW SS 192 [(strOf l),(strOf [47])] h λd e=>∃c:LB,∃b:LB,∃a:Bool,d=(.tuple ⟨[(strOf c),(strOf b),(.bool a)]⟩)/\Q (.tuple ⟨[(strOf c),(strOf b),(.bool a)]⟩) e):FW SS 178 [(strOf l),(strOf [47])] h Q:=cV adB Tryz.func178 (ai f)
noncomputable def jO:FD:=cP Tryz.f116 [([1,0,1,0,0],[0,1,5])]
abbrev jt(l:LB)(c:Int)(i:Nat):LV:=[(strOf l),(.int .u8 c),(iA i)]
theorem Iv(l:LB)(c:Int)(h:ae)(Q:VH)(a:LL SS jO [1,0,1,0,0] (jt l c 0) h (KK SS jO [1,0,1,0] [] (EE SS jO Q))):FW SS 116 [(strOf l),(.int .u8 c)] h Q:=cV jO Tryz.func116 (ai a)
theorem uA(l:LB)(c:Int)  (d:Nat->Nat->ae->Prop) (Q:VH) (step:∀(b:Nat)(i:Nat)(f:Nat->Value)(h:ae),d b i h->au (decide (((i:Int):Int)<((l:LB).length:Int))) (xI .u8 (bU SS.P 9 (strOf l) (iA i)) λa=>au (((a:Int)==c)) (Q (iA i) h) (aM (fy (jt l c) d) b [(strOf l),(.int .u8 c),(.int .i64 (wrap .i64 ((i:Int)+1)))] h)) (Q (.int .i64 (-1)) h)) (b:Nat) {i:Nat} {h:ae} (e:d b i h):LL SS jO [1,0,1,0,0] (jt l c i) h (KK SS jO [1,0,1,0] [] (EE SS jO Q)):=
 dm (jt l c) d (λb i f h e=>ai (step b i f h e)) b e
noncomputable def K3:FD:=cP Tryz.f117 []
theorem Iy(l:LB)(h:ae)(Q:VH)(d:au (decide ((((l:LB).length:Int):Int)<=400)) (FW SS 136 [(strOf l)] h λb c=>yB b λa=>Q (.bool a) c) (Q (.bool false) h)):FW SS 117 [(strOf l)] h Q:=cV K3 Tryz.func117 (ai d)
noncomputable def aw:FD:=cP Tryz.f94 []
abbrev BC(l:LB)(cc:Code)(h:ae)(Q:VH):Prop:=au (decide ((((l:LB).length:Int):Int)>0)) (xI .u8 (bU SS.P 9 (strOf l) (.int .i64 0)) λc=>au (((c:Int)==45)) (xS (bK SS.P 9 (strOf l) (some (.int .i64 1)) none none h) λe=>FW SS 116 [(strOf e),(.int .u8 47)] h λr g=>yI .i64 r λd=>au (decide ((d:Int)>=0)) (xS (bK SS.P 9 (strOf e) (some (.int .i64 (wrap .i64 (d+1)))) none none g) λp=>xS (bK SS.P 9 (strOf e) none (some (.int .i64 d)) none g) λo=>wpS SS aw.nm aw.ms [1,1,1,1,1,1] cc (uN [(strOf l),undef,(.bool false),(strOf []),(strOf []),(.bool false),(strOf o),(strOf p),(.bool (((c:Int)==45))),(.int .i64 d),undef,undef,(strOf l),(strOf l),(.int .i64 ((l:LB).length:Int)),(.bool (decide ((((l:LB).length:Int):Int)>0))),(.bool true),(strOf l),(.int .u8 c),(.bool (((c:Int)==45))),(.bool (((c:Int)==45))),(.bool (((c:Int)==45))),(strOf l),(strOf e),(strOf e),(.int .i64 d),(.int .i64 d),(.bool (decide ((d:Int)>=0))),(strOf e),(.int .i64 d),(.int .i64 (wrap .i64 (d+1))),(strOf p),(strOf e),(.int .i64 d),(strOf o)] 46) g (EE SS aw Q)) (wpS SS aw.nm aw.ms [1,1,1,1,1,1] cc (uN [(strOf l),undef,(.bool false),(strOf []),(strOf []),(.bool false),(strOf e),(strOf [49]),(.bool (((c:Int)==45))),(.int .i64 d),undef,undef,(strOf l),(strOf l),(.int .i64 ((l:LB).length:Int)),(.bool (decide ((((l:LB).length:Int):Int)>0))),(.bool true),(strOf l),(.int .u8 c),(.bool (((c:Int)==45))),(.bool (((c:Int)==45))),(.bool (((c:Int)==45))),(strOf l),(strOf e),(strOf e),(.int .i64 d),(.int .i64 d),(.bool (decide ((d:Int)>=0)))] 53) g (EE SS aw Q))) (FW SS 116 [(strOf l),(.int .u8 47)] h λs i=>yI .i64 s λb=>au (decide ((b:Int)>=0)) (xS (bK SS.P 9 (strOf l) (some (.int .i64 (wrap .i64 (b+1)))) none none i) λn=>xS (bK SS.P 9 (strOf l) none (some (.int .i64 b)) none i) λk=>wpS SS aw.nm aw.ms [1,1,1,1,1,1] cc (uN [(strOf l),undef,(.bool false),(strOf []),(strOf []),(.bool false),(strOf k),(strOf n),(.bool (((c:Int)==45))),(.int .i64 b),undef,undef,(strOf l),(strOf l),(.int .i64 ((l:LB).length:Int)),(.bool (decide ((((l:LB).length:Int):Int)>0))),(.bool true),(strOf l),(.int .u8 c),(.bool (((c:Int)==45))),(.bool (((c:Int)==45))),(.bool (((c:Int)==45))),undef,undef,(strOf l),(.int .i64 b),(.int .i64 b),(.bool (decide ((b:Int)>=0))),(strOf l),(.int .i64 b),(.int .i64 (wrap .i64 (b+1))),(strOf n),(strOf l),(.int .i64 b),(strOf k)] 46) i (EE SS aw Q)) (wpS SS aw.nm aw.ms [1,1,1,1,1,1] cc (uN [(strOf l),undef,(.bool false),(strOf []),(strOf []),(.bool false),(strOf l),(strOf [49]),(.bool (((c:Int)==45))),(.int .i64 b),undef,undef,(strOf l),(strOf l),(.int .i64 ((l:LB).length:Int)),(.bool (decide ((((l:LB).length:Int):Int)>0))),(.bool true),(strOf l),(.int .u8 c),(.bool (((c:Int)==45))),(.bool (((c:Int)==45))),(.bool (((c:Int)==45))),undef,undef,(strOf l),(.int .i64 b),(.int .i64 b),(.bool (decide ((b:Int)>=0)))] 53) i (EE SS aw Q)))) (FW SS 116 [(strOf l),(.int .u8 47)] h λq f=>yI .i64 q λa=>au (decide ((a:Int)>=0)) (xS (bK SS.P 9 (strOf l) (some (.int .i64 (wrap .i64 (a+1)))) none none f) λm=>xS (bK SS.P 9 (strOf l) none (some (.int .i64 a)) none f) λj=>wpS SS aw.nm aw.ms [1,1,1,1,1,1] cc (uN [(strOf l),undef,(.bool false),(strOf []),(strOf []),(.bool false),(strOf j),(strOf m),(.bool false),(.int .i64 a),undef,undef,(strOf l),(strOf l),(.int .i64 ((l:LB).length:Int)),(.bool (decide ((((l:LB).length:Int):Int)>0))),(.bool false),undef,undef,undef,(.bool false),(.bool false),undef,undef,(strOf l),(.int .i64 a),(.int .i64 a),(.bool (decide ((a:Int)>=0))),(strOf l),(.int .i64 a),(.int .i64 (wrap .i64 (a+1))),(strOf m),(strOf l),(.int .i64 a),(strOf j)] 46) f (EE SS aw Q)) (wpS SS aw.nm aw.ms [1,1,1,1,1,1] cc (uN [(strOf l),undef,(.bool false),(strOf []),(strOf []),(.bool false),(strOf l),(strOf [49]),(.bool false),(.int .i64 a),undef,undef,(strOf l),(strOf l),(.int .i64 ((l:LB).length:Int)),(.bool (decide ((((l:LB).length:Int):Int)>0))),(.bool false),undef,undef,undef,(.bool false),(.bool false),undef,undef,(strOf l),(.int .i64 a),(.int .i64 a),(.bool (decide ((a:Int)>=0)))] 53) f (EE SS aw Q)))
theorem Ix(l:LB)(h:ae)(Q:VH)(a:BC l (fV [1,1,1,1,1,1] aw.body) h Q):FW SS 94 [(strOf l)] h Q:=by
 have e:∀cc,BC l cc h Q=wpS SS aw.nm aw.ms [] (setAt [1,1,1,1,1,1] cc aw.body) ([(strOf l)]++List.replicate (aw.nm-([(strOf l)]:LV).length) undef) h (EE SS aw Q):=λcc=>by kernel_rfl
 have e:=e (fV [1,1,1,1,1,1] aw.body);rw[je]at e;exact cV aw Tryz.func94 (ai a e)
abbrev uB(n d:LB)(neg:Bool)(a:Int)(cc:Code)(Z x1 X x3 Y W K L m H x P U G O M o l k w z V J B s I D p S i j x7 y9 u5 u4 y8 y3 y1 y6 z2 y0 x9 u0 u6 u3 z4 u2 z5 y5 x8 z9 x6 u1 z6 z7 y7 z8 y4 z1 z3 z0 y2 q t C r u A T E F y f g v N R:Value)(h:ae)(Q:VH):Prop:=FW SS 117 [(strOf n)] h λv1 h2=>yB v1 λe=>au (!e) (Q (.tuple ⟨[(.bool false),(strOf []),(strOf []),(.bool false)]⟩) h2) (FW SS 117 [(strOf d)] h2 λv4 c=>yB v4 λb=>au (!b) (Q (.tuple ⟨[(.bool false),(strOf []),(strOf []),(.bool false)]⟩) c) (au ((d:LB)==[48]) (Q (.tuple ⟨[(.bool false),(strOf []),(strOf []),(.bool false)]⟩) c) (au ((n:LB)==[48]) (au neg (Q (.tuple ⟨[(.bool false),(strOf []),(strOf []),(.bool false)]⟩) c) (au (decide ((a:Int)>=0)) (Q (.tuple ⟨[(.bool false),(strOf []),(strOf []),(.bool false)]⟩) c) (au ((d:LB)==[49]) (au (decide ((a:Int)>=0)) (Q (.tuple ⟨[(.bool false),(strOf []),(strOf []),(.bool false)]⟩) c) (wpS SS aw.nm aw.ms [1,1,1,1,1,1,1] cc [Z,x1,X,x3,Y,W,(strOf n),(strOf d),(.bool neg),(.int .i64 a),K,L,m,H,x,P,U,G,O,M,o,l,k,w,z,V,J,B,s,I,D,p,S,i,j,(strOf n),(.bool e),(.bool (!e)),(.bool false),(strOf d),(.bool b),(.bool (!b)),(.bool (!b)),(.bool false),(strOf d),(.bool ((d:LB)==[48])),(.bool ((d:LB)==[48])),(.bool false),(strOf n),(.bool ((n:LB)==[48])),(.bool true),(.bool neg),(.bool false),(.int .i64 a),(.bool (decide ((a:Int)>=0))),(.bool (decide ((a:Int)>=0))),(.bool (decide ((a:Int)>=0))),(.bool (decide ((a:Int)>=0))),(.bool false),(strOf d),(.bool ((d:LB)==[49])),(.bool true),(.int .i64 a),(.bool (decide ((a:Int)>=0))),(.bool (decide ((a:Int)>=0))),(.bool (decide ((a:Int)>=0))),q,t,C,r,u,A,T,E,F,y,f,g,v,N,R] c (EE SS aw Q))) (wpS SS aw.nm aw.ms [1,1,1,1,1,1,1] cc [Z,x1,X,x3,Y,W,(strOf n),(strOf d),(.bool neg),(.int .i64 a),K,L,m,H,x,P,U,G,O,M,o,l,k,w,z,V,J,B,s,I,D,p,S,i,j,(strOf n),(.bool e),(.bool (!e)),(.bool false),(strOf d),(.bool b),(.bool (!b)),(.bool (!b)),(.bool false),(strOf d),(.bool ((d:LB)==[48])),(.bool ((d:LB)==[48])),(.bool false),(strOf n),(.bool ((n:LB)==[48])),(.bool true),(.bool neg),(.bool false),(.int .i64 a),(.bool (decide ((a:Int)>=0))),(.bool (decide ((a:Int)>=0))),(.bool (decide ((a:Int)>=0))),(.bool (decide ((a:Int)>=0))),(.bool false),(strOf d),(.bool ((d:LB)==[49])),(.bool false),undef,undef,(.bool false),(.bool false),q,t,C,r,u,A,T,E,F,y,f,g,v,N,R] c (EE SS aw Q))))) (au ((d:LB)==[49]) (au (decide ((a:Int)>=0)) (Q (.tuple ⟨[(.bool false),(strOf []),(strOf []),(.bool false)]⟩) c) (wpS SS aw.nm aw.ms [1,1,1,1,1,1,1] cc [Z,x1,X,x3,Y,W,(strOf n),(strOf d),(.bool neg),(.int .i64 a),K,L,m,H,x,P,U,G,O,M,o,l,k,w,z,V,J,B,s,I,D,p,S,i,j,(strOf n),(.bool e),(.bool (!e)),(.bool false),(strOf d),(.bool b),(.bool (!b)),(.bool (!b)),(.bool false),(strOf d),(.bool ((d:LB)==[48])),(.bool ((d:LB)==[48])),(.bool false),(strOf n),(.bool ((n:LB)==[48])),(.bool false),undef,undef,undef,undef,undef,(.bool false),(.bool false),(.bool false),(strOf d),(.bool ((d:LB)==[49])),(.bool true),(.int .i64 a),(.bool (decide ((a:Int)>=0))),(.bool (decide ((a:Int)>=0))),(.bool (decide ((a:Int)>=0))),q,t,C,r,u,A,T,E,F,y,f,g,v,N,R] c (EE SS aw Q))) (wpS SS aw.nm aw.ms [1,1,1,1,1,1,1] cc [Z,x1,X,x3,Y,W,(strOf n),(strOf d),(.bool neg),(.int .i64 a),K,L,m,H,x,P,U,G,O,M,o,l,k,w,z,V,J,B,s,I,D,p,S,i,j,(strOf n),(.bool e),(.bool (!e)),(.bool false),(strOf d),(.bool b),(.bool (!b)),(.bool (!b)),(.bool false),(strOf d),(.bool ((d:LB)==[48])),(.bool ((d:LB)==[48])),(.bool false),(strOf n),(.bool ((n:LB)==[48])),(.bool false),undef,undef,undef,undef,undef,(.bool false),(.bool false),(.bool false),(strOf d),(.bool ((d:LB)==[49])),(.bool false),undef,undef,(.bool false),(.bool false),q,t,C,r,u,A,T,E,F,y,f,g,v,N,R] c (EE SS aw Q))))))
theorem B8{neg:Bool}{x2 x3 x4 x5 y4 y6 x y0 N z2 z9 x9 z1 y8 y p m M P u2 y3 U H y2 Y D z7 f l d C u0 z6 B o k u R j i y7 u1 z4 V z3 X r g y5 a y9 Z x7 A y1 q K S G n E I W F J T z8 x6 x8 O b c L z0 z5:Value}(hx:uB s t neg z (fV [1,1,1,1,1,1,1] aw.body) v w x2 x3 x4 x5 y4 y6 x y0 N z2 z9 x9 z1 y8 y p m M P u2 y3 U H y2 Y D z7 f l d C u0 z6 B o k u R j i y7 u1 z4 V z3 X r g y5 a y9 Z x7 A y1 q K S G n E I W F J T z8 x6 x8 O b c L z0 z5 h Q):TT SS aw [1,1,1,1,1,1] [v,w,x2,x3,x4,x5,(strOf s),(strOf t),(.bool neg),(.int .i64 z),y4,y6,x,y0,N,z2,z9,x9,z1,y8,y,p,m,M,P,u2,y3,U,H,y2,Y,D,z7,f,l,d,C,u0,z6,B,o,k,u,R,j,i,y7,u1,z4,V,z3,X,r,g,y5,a,y9,Z,x7,A,y1,q,K,S,G,n,E,I,W,F,J,T,z8,x6,x8,O,b,c,L,z0,z5] h (EE SS aw Q):=by
 have e:∀cc,uB s t neg z cc v w x2 x3 x4 x5 y4 y6 x y0 N z2 z9 x9 z1 y8 y p m M P u2 y3 U H y2 Y D z7 f l d C u0 z6 B o k u R j i y7 u1 z4 V z3 X r g y5 a y9 Z x7 A y1 q K S G n E I W F J T z8 x6 x8 O b c L z0 z5 h Q=wpS SS aw.nm aw.ms [1,1,1,1,1,1] (setAt [1] cc (fV [1,1,1,1,1,1] aw.body)) [v,w,x2,x3,x4,x5,(strOf s),(strOf t),(.bool neg),(.int .i64 z),y4,y6,x,y0,N,z2,z9,x9,z1,y8,y,p,m,M,P,u2,y3,U,H,y2,Y,D,z7,f,l,d,C,u0,z6,B,o,k,u,R,j,i,y7,u1,z4,V,z3,X,r,g,y5,a,y9,Z,x7,A,y1,q,K,S,G,n,E,I,W,F,J,T,z8,x6,x8,O,b,c,L,z0,z5] h (EE SS aw Q):=λcc=>by kernel_rfl
 have e:=e (fV [1,1,1,1,1,1,1] aw.body);have ec:(fV [1,1,1,1,1,1,1] aw.body)=fV [1] (fV [1,1,1,1,1,1] aw.body):=by kernel_rfl
 have es:setAt [1] (fV [1,1,1,1,1,1,1] aw.body) (fV [1,1,1,1,1,1] aw.body)=fV [1,1,1,1,1,1] aw.body:=by rw[ec,je]
 rw[es]at e;exact ai hx e
theorem B9{neg:Bool}{x2 x3 x4 x5 y7 y9 B y3 R z5 u2 y2 z4 z1 C u p P T u5 y6 X K y5 x7 G u0 j o i F u3 z9 E r n A U m l z0 u4 z7 Y z6 x6 y k y8 d z2 x8 y0 D y4 x N V J q H L Z I M W u1 x9 y1 S f g O z3 z8:Value}(hx:FW SS 118 [(strOf s),(strOf t)] h λc e=>∃b:LB,∃a:Int,c=(.tuple ⟨[(strOf b),(.int .i64 a)]⟩)/\au (!((b:LB)==[49])) (au (!((t:LB)==[49])) (Q (.tuple ⟨[(.bool false),(strOf []),(strOf []),(.bool false)]⟩) e) (Q (.tuple ⟨[(.bool neg),(strOf s),(strOf t),(.bool true)]⟩) e)) (Q (.tuple ⟨[(.bool neg),(strOf s),(strOf t),(.bool true)]⟩) e)):TT SS aw [1,1,1,1,1,1,1] [v,w,x2,x3,x4,x5,(strOf s),(strOf t),(.bool neg),(.int .i64 z),y7,y9,B,y3,R,z5,u2,y2,z4,z1,C,u,p,P,T,u5,y6,X,K,y5,x7,G,u0,j,o,i,F,u3,z9,E,r,n,A,U,m,l,z0,u4,z7,Y,z6,x6,y,k,y8,d,z2,x8,y0,D,y4,x,N,V,J,q,H,L,Z,I,M,W,u1,x9,y1,S,f,g,O,z3,z8] h (EE SS aw Q):=ai hx
noncomputable def K5:FD:=cP Tryz.f71 []
theorem IA(l:LB)(h:ae)(Q:VH)(g:FW SS 94 [(strOf l)] h λe f=>∃d:Bool,∃c:LB,∃b:LB,∃a:Bool,e=(.tuple ⟨[(.bool d),(strOf c),(strOf b),(.bool a)]⟩)/\Q (.bool a) f):FW SS 71 [(strOf l)] h Q:=cV K5 Tryz.func71 (ai g)
noncomputable def K4:FD:=cP Tryz.f96 []
theorem Iz(l m:LB)(h:ae)(Q:VH)(e:FW SS 122 [(strOf l),(strOf m)] h λc d=>∃b:LB,∃a:Int,c=(.tuple ⟨[(strOf b),(.int .i64 a)]⟩)/\Q (strOf b) d):FW SS 96 [(strOf l),(strOf m)] h Q:=cV K4 Tryz.func96 (ai e)
noncomputable def RM:FD:=cP Tryz.f95 []
theorem NB(p:Bool)(l:LB)(q:Bool)(m:LB)(h:ae)(Q:VH)(i:au (p==q) (FW SS 119 [(strOf l),(strOf m)] h λc d=>∃b:LB,∃a:Int,c=(.tuple ⟨[(strOf b),(.int .i64 a)]⟩)/\Q (.tuple ⟨[(.bool p),(strOf b)]⟩) d) (FW SS 120 [(strOf l),(strOf m)] h λf g=>yI .i64 f λe=>au (decide ((e:Int)>=0)) (FW SS 121 [(strOf l),(strOf m)] g λc d=>∃b:LB,∃a:Int,c=(.tuple ⟨[(strOf b),(.int .i64 a)]⟩)/\Q (.tuple ⟨[(.bool p),(strOf b)]⟩) d) (FW SS 121 [(strOf m),(strOf l)] g λc d=>∃b:LB,∃a:Int,c=(.tuple ⟨[(strOf b),(.int .i64 a)]⟩)/\Q (.tuple ⟨[(.bool q),(strOf b)]⟩) d))):FW SS 95 [(.bool p),(strOf l),(.bool q),(strOf m)] h Q:=cV RM Tryz.func95 (ai i)
noncomputable def RL:FD:=cP Tryz.f72 []
theorem NA(l m:LB)(h:ae)(Q:VH)(w:FW SS 94 [(strOf l)] h λu v=>∃t:Bool,∃s:LB,∃r:LB,∃q:Bool,u=(.tuple ⟨[(.bool t),(strOf s),(strOf r),(.bool q)]⟩)/\FW SS 94 [(strOf m)] v λo p=>∃n:Bool,∃m:LB,∃l:LB,∃k:Bool,o=(.tuple ⟨[(.bool n),(strOf m),(strOf l),(.bool k)]⟩)/\au (!q) (Q (.int .i64 0) p) (au (!k) (Q (.int .i64 0) p) (FW SS 96 [(strOf s),(strOf l)] p λi j=>yS i λh=>FW SS 96 [(strOf m),(strOf r)] j λf g=>yS f λe=>FW SS 95 [(.bool t),(strOf h),(.bool (!n)),(strOf e)] g λc d=>∃b:Bool,∃a:LB,c=(.tuple ⟨[(.bool b),(strOf a)]⟩)/\au ((a:LB)==[48]) (Q (.int .i64 0) d) (au b (Q (.int .i64 (-1)) d) (Q (.int .i64 1) d))))):FW SS 72 [(strOf l),(strOf m)] h Q:=cV RL Tryz.func72 (ai w)
noncomputable def RC:FD:=cP Tryz.f142 []
theorem Nv(l:LB)(e:Int)(h:ae)(Q:VH)(a:au (((e:Int) !=0)) (xA (bd SS.P 176 []) λ_=>False) (Q (strOf l) h)):FW SS 142 [(strOf l),(.int .i64 e)] h Q:=cV RC Tryz.func142 (ai a)
noncomputable def al:FD:=cP Tryz.f145 []
abbrev D8(l:LB)(cc:Code)(h:ae)(Q:VH):Prop:=xN (bw SS.P 155) h λm j=>FW SS 177 [(strOf l),(strOf [45])] j λg k=>∃c:LB,∃d:Bool,g=(.tuple ⟨[(strOf c),(.bool d)]⟩)/\FW SS 178 [(strOf c),(strOf [47])] k λi f=>∃e:LB,∃b:LB,∃a:Bool,i=(.tuple ⟨[(strOf e),(strOf b),(.bool a)]⟩)/\au (!a) (wpS SS al.nm al.ms [1,1,1,1] cc (uN [(strOf l),undef,(pA (h.next)),(.bool false),(strOf c),(.bool d),(strOf e),(strOf [49]),(.bool a),undef,undef,(.tuple ⟨[(strOf c),(.bool d)]⟩),(strOf l),(.tuple ⟨[(strOf c),(.bool d)]⟩),(strOf c),(.bool d),(.tuple ⟨[(strOf e),(strOf b),(.bool a)]⟩),(strOf c),(.tuple ⟨[(strOf e),(strOf b),(.bool a)]⟩),(strOf e),(strOf b),(.bool a),(.bool a),(.bool (!a))] 53) f (EE SS al Q)) (wpS SS al.nm al.ms [1,1,1,1] cc (uN [(strOf l),undef,(pA (h.next)),(.bool false),(strOf c),(.bool d),(strOf e),(strOf b),(.bool a),undef,undef,(.tuple ⟨[(strOf c),(.bool d)]⟩),(strOf l),(.tuple ⟨[(strOf c),(.bool d)]⟩),(strOf c),(.bool d),(.tuple ⟨[(strOf e),(strOf b),(.bool a)]⟩),(strOf c),(.tuple ⟨[(strOf e),(strOf b),(.bool a)]⟩),(strOf e),(strOf b),(.bool a),(.bool a),(.bool (!a))] 53) f (EE SS al Q))
theorem KZ(l:LB)(h:ae)(Q:VH)(a:D8 l (fV [1,1,1,1] al.body) h Q):FW SS 145 [(strOf l)] h Q:=by
 have e:∀cc,D8 l cc h Q=wpS SS al.nm al.ms [] (setAt [1,1,1,1] cc al.body) ([(strOf l)]++List.replicate (al.nm-([(strOf l)]:LV).length) undef) h (EE SS al Q):=λcc=>by kernel_rfl
 have e:=e (fV [1,1,1,1] al.body);rw[je]at e;exact cV al Tryz.func145 (ai a e)
abbrev wD(n d:LB)(neg r:Bool)(p:Addr)(cc:Code)(x0 x1 x3 x4 x9 Z x5 v X G y1 y6 W y0 x7 w q m F z9 u9 u4 u1 z8 u3 u2 z7 u7 z0 z2 y9 z6 u8 u6 z5 z3 z1 u I l j x6 y7 y3 N y2 P t i x2 f x8 S U x Y s E J A o y C O z D K y4 T V H g:Value)(h:ae)(Q:VH):Prop:=FW SS 171 [(strOf n)] h λv1 e=>yB v1 λc=>au (!c) (xA (bd SS.P 155 []) λc4=>xU (ah SS.P 155 (.pointer (some p)) (.agg ⟨c4⟩) e) e λu5 g6=>ep SS [((.pointer (some p)),some 155),((.bool false),none)] g6 Q) (FW SS 171 [(strOf d)] e λv7 a=>yB v7 λb=>au (!b) (xA (bd SS.P 155 []) λy5=>xU (ah SS.P 155 (.pointer (some p)) (.agg ⟨y5⟩) a) a λz4 k=>ep SS [((.pointer (some p)),some 155),((.bool false),none)] k Q) (au (decide ((((n:LB).length:Int):Int)>400)) (xA (bd SS.P 155 []) λM=>xU (ah SS.P 155 (.pointer (some p)) (.agg ⟨M⟩) a) a λy8 L=>ep SS [((.pointer (some p)),some 155),((.bool false),none)] L Q) (au (decide ((((d:LB).length:Int):Int)>400)) (xA (bd SS.P 155 []) λR=>xU (ah SS.P 155 (.pointer (some p)) (.agg ⟨R⟩) a) a λu0 B=>ep SS [((.pointer (some p)),some 155),((.bool false),none)] B Q) (wpS SS al.nm al.ms [1,1,1,1,1] cc [x0,x1,(.pointer (some p)),x3,x4,(.bool neg),(strOf n),(strOf d),(.bool r),x9,Z,x5,v,X,G,y1,y6,W,y0,x7,w,q,m,F,(strOf n),(.bool c),(.bool (!c)),(.bool false),(strOf d),(.bool b),(.bool (!b)),(.bool (!b)),(.bool false),(strOf n),(.int .i64 ((n:LB).length:Int)),(.bool (decide ((((n:LB).length:Int):Int)>400))),(.bool (decide ((((n:LB).length:Int):Int)>400))),(.bool false),(strOf d),(.int .i64 ((d:LB).length:Int)),(.bool (decide ((((d:LB).length:Int):Int)>400))),(.bool (decide ((((d:LB).length:Int):Int)>400))),u,I,l,j,x6,y7,y3,N,y2,P,t,i,x2,f,x8,S,U,x,Y,s,E,J,A,o,y,C,O,z,D,K,y4,T,V,H,g] a (EE SS al Q)))))
theorem D9{neg:Bool}{p:Addr}{x3 x4 x9 y2 y4 y x7 M y9 z5 x6 y8 y6 z q m L O z8 y1 T H y0 X D z3 f l d C z6 z2 B o k x P j i y5 z7 z1 U z0 W u g y3 a y7 Y x2 A x8 r K R G n E I V F J S z4 Z x5 N c:Value}(hx:wD s t neg b p (fV [1,1,1,1,1] al.body) v w x3 x4 x9 y2 y4 y x7 M y9 z5 x6 y8 y6 z q m L O z8 y1 T H y0 X D z3 f l d C z6 z2 B o k x P j i y5 z7 z1 U z0 W u g y3 a y7 Y x2 A x8 r K R G n E I V F J S z4 Z x5 N c h Q):TT SS al [1,1,1,1] [v,w,(.pointer (some p)),x3,x4,(.bool neg),(strOf s),(strOf t),(.bool b),x9,y2,y4,y,x7,M,y9,z5,x6,y8,y6,z,q,m,L,O,z8,y1,T,H,y0,X,D,z3,f,l,d,C,z6,z2,B,o,k,x,P,j,i,y5,z7,z1,U,z0,W,u,g,y3,a,y7,Y,x2,A,x8,r,K,R,G,n,E,I,V,F,J,S,z4,Z,x5,N,c] h (EE SS al Q):=by
 have e:∀cc,wD s t neg b p cc v w x3 x4 x9 y2 y4 y x7 M y9 z5 x6 y8 y6 z q m L O z8 y1 T H y0 X D z3 f l d C z6 z2 B o k x P j i y5 z7 z1 U z0 W u g y3 a y7 Y x2 A x8 r K R G n E I V F J S z4 Z x5 N c h Q=wpS SS al.nm al.ms [1,1,1,1] (setAt [1] cc (fV [1,1,1,1] al.body)) [v,w,(.pointer (some p)),x3,x4,(.bool neg),(strOf s),(strOf t),(.bool b),x9,y2,y4,y,x7,M,y9,z5,x6,y8,y6,z,q,m,L,O,z8,y1,T,H,y0,X,D,z3,f,l,d,C,z6,z2,B,o,k,x,P,j,i,y5,z7,z1,U,z0,W,u,g,y3,a,y7,Y,x2,A,x8,r,K,R,G,n,E,I,V,F,J,S,z4,Z,x5,N,c] h (EE SS al Q):=λcc=>by kernel_rfl
 have e:=e (fV [1,1,1,1,1] al.body);have ec:(fV [1,1,1,1,1] al.body)=fV [1] (fV [1,1,1,1] al.body):=by kernel_rfl
 have es:setAt [1] (fV [1,1,1,1,1] al.body) (fV [1,1,1,1] al.body)=fV [1,1,1,1] al.body:=by rw[ec,je]
 rw[es]at e;exact ai hx e
abbrev wE(n d:LB)(neg a:Bool)(p:Addr)(cc:Code)(x0 x1 x3 x4 x9 U V q P E Y x6 O X W r l i D G x8 T J z S L v x2 e g c u x7 Z t k f o z1 y8 y7 z7 u1 u0 z2 z9 z3 z0 y6 z6 y5 z8 z4 z5 s R m C H y j w A K x B I x5 M N F b:Value)(h:ae)(Q:VH):Prop:=au neg (au ((n:LB)==[48]) (xA (bd SS.P 155 []) λc1=>xU (ah SS.P 155 (.pointer (some p)) (.agg ⟨c1⟩) h) h λu2 g3=>ep SS [((.pointer (some p)),some 155),((.bool false),none)] g3 Q) (au a (au ((d:LB)==[48]) (xA (bd SS.P 155 []) λc4=>xU (ah SS.P 155 (.pointer (some p)) (.agg ⟨c4⟩) h) h λu5 g6=>ep SS [((.pointer (some p)),some 155),((.bool false),none)] g6 Q) (au ((d:LB)==[49]) (xA (bd SS.P 155 []) λc7=>xU (ah SS.P 155 (.pointer (some p)) (.agg ⟨c7⟩) h) h λu8 g9=>ep SS [((.pointer (some p)),some 155),((.bool false),none)] g9 Q) (wpS SS al.nm al.ms [1,1,1,1,1,1] cc [x0,x1,(.pointer (some p)),x3,x4,(.bool neg),(strOf n),(strOf d),(.bool a),x9,U,V,q,P,E,Y,x6,O,X,W,r,l,i,D,G,x8,T,J,z,S,L,v,x2,e,g,c,u,x7,Z,t,k,f,o,(.bool neg),(.bool true),(strOf n),(.bool ((n:LB)==[48])),(.bool ((n:LB)==[48])),(.bool false),(.bool a),(.bool true),(strOf d),(.bool ((d:LB)==[48])),(.bool false),(strOf d),(.bool ((d:LB)==[49])),(.bool ((d:LB)==[49])),(.bool ((d:LB)==[49])),(.bool ((d:LB)==[49])),s,R,m,C,H,y,j,w,A,K,x,B,I,x5,M,N,F,b] h (EE SS al Q)))) (wpS SS al.nm al.ms [1,1,1,1,1,1] cc [x0,x1,(.pointer (some p)),x3,x4,(.bool neg),(strOf n),(strOf d),(.bool a),x9,U,V,q,P,E,Y,x6,O,X,W,r,l,i,D,G,x8,T,J,z,S,L,v,x2,e,g,c,u,x7,Z,t,k,f,o,(.bool neg),(.bool true),(strOf n),(.bool ((n:LB)==[48])),(.bool ((n:LB)==[48])),(.bool false),(.bool a),(.bool false),undef,undef,undef,undef,undef,undef,(.bool false),(.bool false),s,R,m,C,H,y,j,w,A,K,x,B,I,x5,M,N,F,b] h (EE SS al Q)))) (au a (au ((d:LB)==[48]) (xA (bd SS.P 155 []) λy3=>xU (ah SS.P 155 (.pointer (some p)) (.agg ⟨y3⟩) h) h λy9 y0=>ep SS [((.pointer (some p)),some 155),((.bool false),none)] y0 Q) (au ((d:LB)==[49]) (xA (bd SS.P 155 []) λy2=>xU (ah SS.P 155 (.pointer (some p)) (.agg ⟨y2⟩) h) h λy4 y1=>ep SS [((.pointer (some p)),some 155),((.bool false),none)] y1 Q) (wpS SS al.nm al.ms [1,1,1,1,1,1] cc [x0,x1,(.pointer (some p)),x3,x4,(.bool neg),(strOf n),(strOf d),(.bool a),x9,U,V,q,P,E,Y,x6,O,X,W,r,l,i,D,G,x8,T,J,z,S,L,v,x2,e,g,c,u,x7,Z,t,k,f,o,(.bool neg),(.bool false),undef,undef,(.bool false),(.bool false),(.bool a),(.bool true),(strOf d),(.bool ((d:LB)==[48])),(.bool false),(strOf d),(.bool ((d:LB)==[49])),(.bool ((d:LB)==[49])),(.bool ((d:LB)==[49])),(.bool ((d:LB)==[49])),s,R,m,C,H,y,j,w,A,K,x,B,I,x5,M,N,F,b] h (EE SS al Q)))) (wpS SS al.nm al.ms [1,1,1,1,1,1] cc [x0,x1,(.pointer (some p)),x3,x4,(.bool neg),(strOf n),(strOf d),(.bool a),x9,U,V,q,P,E,Y,x6,O,X,W,r,l,i,D,G,x8,T,J,z,S,L,v,x2,e,g,c,u,x7,Z,t,k,f,o,(.bool neg),(.bool false),undef,undef,(.bool false),(.bool false),(.bool a),(.bool false),undef,undef,undef,undef,undef,undef,(.bool false),(.bool false),s,R,m,C,H,y,j,w,A,K,x,B,I,x5,M,N,F,b] h (EE SS al Q)))
theorem Ea{neg:Bool}{p:Addr}{x3 x4 x9 y2 y4 y x7 M y9 z5 x6 y8 y6 z q m L O z8 y1 T H y0 X D z3 f l d C z6 z2 B o k x P j i y5 z7 z1 U z0 W u g y3 a y7 Y x2 A x8 r K R G n E I V F J S z4 Z x5 N c:Value}(hx:wE s t neg b p (fV [1,1,1,1,1,1] al.body) v w x3 x4 x9 y2 y4 y x7 M y9 z5 x6 y8 y6 z q m L O z8 y1 T H y0 X D z3 f l d C z6 z2 B o k x P j i y5 z7 z1 U z0 W u g y3 a y7 Y x2 A x8 r K R G n E I V F J S z4 Z x5 N c h Q):TT SS al [1,1,1,1,1] [v,w,(.pointer (some p)),x3,x4,(.bool neg),(strOf s),(strOf t),(.bool b),x9,y2,y4,y,x7,M,y9,z5,x6,y8,y6,z,q,m,L,O,z8,y1,T,H,y0,X,D,z3,f,l,d,C,z6,z2,B,o,k,x,P,j,i,y5,z7,z1,U,z0,W,u,g,y3,a,y7,Y,x2,A,x8,r,K,R,G,n,E,I,V,F,J,S,z4,Z,x5,N,c] h (EE SS al Q):=by
 have e:∀cc,wE s t neg b p cc v w x3 x4 x9 y2 y4 y x7 M y9 z5 x6 y8 y6 z q m L O z8 y1 T H y0 X D z3 f l d C z6 z2 B o k x P j i y5 z7 z1 U z0 W u g y3 a y7 Y x2 A x8 r K R G n E I V F J S z4 Z x5 N c h Q=wpS SS al.nm al.ms [1,1,1,1,1] (setAt [1] cc (fV [1,1,1,1,1] al.body)) [v,w,(.pointer (some p)),x3,x4,(.bool neg),(strOf s),(strOf t),(.bool b),x9,y2,y4,y,x7,M,y9,z5,x6,y8,y6,z,q,m,L,O,z8,y1,T,H,y0,X,D,z3,f,l,d,C,z6,z2,B,o,k,x,P,j,i,y5,z7,z1,U,z0,W,u,g,y3,a,y7,Y,x2,A,x8,r,K,R,G,n,E,I,V,F,J,S,z4,Z,x5,N,c] h (EE SS al Q):=λcc=>by kernel_rfl
 have e:=e (fV [1,1,1,1,1,1] al.body);have ec:(fV [1,1,1,1,1,1] al.body)=fV [1] (fV [1,1,1,1,1] al.body):=by kernel_rfl
 have es:setAt [1] (fV [1,1,1,1,1,1] al.body) (fV [1,1,1,1,1] al.body)=fV [1,1,1,1,1] al.body:=by rw[ec,je]
 rw[es]at e;exact ai hx e
abbrev wF(n d:LB)(neg t:Bool)(p:Addr)(cc:Code)(x0 x1 x3 x4 x9 z9 W w S E x6 y3 R x5 Z x s q D G y6 U I C T L B y1 i o g A y4 y0 z r m v H l k Y y5 x8 J x7 K u j V e x2 M O y z8 y8 z4 z5 z1 y7 y9 z2 z7 z0 z3 z6 y2 N P F f:Value)(h:ae)(Q:VH):Prop:=FW SS 175 [(strOf n),(strOf d)] h λv1 c=>∃a:LB,∃b:Int,v1=(.tuple ⟨[(strOf a),(.int .i64 b)]⟩)/\au (((b:Int) !=0)) (xA (bd SS.P 155 []) λc5=>xU (ah SS.P 155 (.pointer (some p)) (.agg ⟨c5⟩) c) c λu6 g7=>ep SS [((.pointer (some p)),some 155),((.bool false),none)] g7 Q) (au (!((a:LB)==[49])) (xA (bd SS.P 155 []) λc8=>xU (ah SS.P 155 (.pointer (some p)) (.agg ⟨c8⟩) c) c λu9 X=>ep SS [((.pointer (some p)),some 155),((.bool false),none)] X Q) (wpS SS al.nm al.ms [1,1,1,1,1,1,1] cc [x0,x1,(.pointer (some p)),x3,x4,(.bool neg),(strOf n),(strOf d),(.bool t),(strOf a),(.int .i64 b),W,w,S,E,x6,y3,R,x5,Z,x,s,q,D,G,y6,U,I,C,T,L,B,y1,i,o,g,A,y4,y0,z,r,m,v,H,l,k,Y,y5,x8,J,x7,K,u,j,V,e,x2,M,O,y,(.tuple ⟨[(strOf a),(.int .i64 b)]⟩),(strOf n),(strOf d),(.tuple ⟨[(strOf a),(.int .i64 b)]⟩),(strOf a),(.int .i64 b),(.int .i64 b),(.bool (((b:Int) !=0))),(.bool false),(strOf a),(.bool (!((a:LB)==[49]))),(.bool (!((a:LB)==[49]))),y2,N,P,F,f] c (EE SS al Q)))
theorem Eb{neg:Bool}{p:Addr}{x3 x4 x9 y2 y4 y x7 M y9 z5 x6 y8 y6 z q m L O z8 y1 T H y0 X D z3 f l d C z6 z2 B o k x P j i y5 z7 z1 U z0 W u g y3 a y7 Y x2 A x8 r K R G n E I V F J S z4 Z x5 N c:Value}(hx:wF s t neg b p (fV [1,1,1,1,1,1,1] al.body) v w x3 x4 x9 y2 y4 y x7 M y9 z5 x6 y8 y6 z q m L O z8 y1 T H y0 X D z3 f l d C z6 z2 B o k x P j i y5 z7 z1 U z0 W u g y3 a y7 Y x2 A x8 r K R G n E I V F J S z4 Z x5 N c h Q):TT SS al [1,1,1,1,1,1] [v,w,(.pointer (some p)),x3,x4,(.bool neg),(strOf s),(strOf t),(.bool b),x9,y2,y4,y,x7,M,y9,z5,x6,y8,y6,z,q,m,L,O,z8,y1,T,H,y0,X,D,z3,f,l,d,C,z6,z2,B,o,k,x,P,j,i,y5,z7,z1,U,z0,W,u,g,y3,a,y7,Y,x2,A,x8,r,K,R,G,n,E,I,V,F,J,S,z4,Z,x5,N,c] h (EE SS al Q):=by
 have e:∀cc,wF s t neg b p cc v w x3 x4 x9 y2 y4 y x7 M y9 z5 x6 y8 y6 z q m L O z8 y1 T H y0 X D z3 f l d C z6 z2 B o k x P j i y5 z7 z1 U z0 W u g y3 a y7 Y x2 A x8 r K R G n E I V F J S z4 Z x5 N c h Q=wpS SS al.nm al.ms [1,1,1,1,1,1] (setAt [1] cc (fV [1,1,1,1,1,1] al.body)) [v,w,(.pointer (some p)),x3,x4,(.bool neg),(strOf s),(strOf t),(.bool b),x9,y2,y4,y,x7,M,y9,z5,x6,y8,y6,z,q,m,L,O,z8,y1,T,H,y0,X,D,z3,f,l,d,C,z6,z2,B,o,k,x,P,j,i,y5,z7,z1,U,z0,W,u,g,y3,a,y7,Y,x2,A,x8,r,K,R,G,n,E,I,V,F,J,S,z4,Z,x5,N,c] h (EE SS al Q):=λcc=>by kernel_rfl
 have e:=e (fV [1,1,1,1,1,1,1] al.body);have ec:(fV [1,1,1,1,1,1,1] al.body)=fV [1] (fV [1,1,1,1,1,1] al.body):=by kernel_rfl
 have es:setAt [1] (fV [1,1,1,1,1,1,1] al.body) (fV [1,1,1,1,1,1] al.body)=fV [1,1,1,1,1,1] al.body:=by rw[ec,je]
 rw[es]at e;exact ai hx e
theorem Ec{neg r:Bool}{p:Addr}{x3 x4 x9 y3 y5 z x8 N z0 z6 x7 y9 y7 A q m M P z9 y2 U I y1 Y E z4 f l e D z7 z3 C o k y R j i y6 z8 z2 V z1 X x g y4 c y8 Z x5 B y0 u L S H n F J W G K T z5 x2 x6 O d:Value}(hx:xA (bd SS.P 155 [(0,(.bool neg)),(1,(strOf s)),(2,(strOf t))]) λb=>xU (ah SS.P 155 (.pointer (some p)) (.agg ⟨b⟩) h) h λ_ a=>ep SS [((.pointer (some p)),some 155),((.bool true),none)] a Q):TT SS al [1,1,1,1,1,1,1] [v,w,(.pointer (some p)),x3,x4,(.bool neg),(strOf s),(strOf t),(.bool r),x9,y3,y5,z,x8,N,z0,z6,x7,y9,y7,A,q,m,M,P,z9,y2,U,I,y1,Y,E,z4,f,l,e,D,z7,z3,C,o,k,y,R,j,i,y6,z8,z2,V,z1,X,x,g,y4,c,y8,Z,x5,B,y0,u,L,S,H,n,F,J,W,G,K,T,z5,x2,x6,O,d] h (EE SS al Q):=ai hx
noncomputable def Nx:FD:=cP Tryz.f109 []
theorem K0(l:LB)(h:ae)(Q:VH)(e:FW SS 145 [(strOf l)] h λc d=>∃b:LV,∃a:Bool,c=(.tuple ⟨[(.agg ⟨b⟩),(.bool a)]⟩)/\Q (.bool a) d):FW SS 109 [(strOf l)] h Q:=cV Nx Tryz.func109 (ai e)
noncomputable def RD:FD:=cP Tryz.f141 []
theorem Nw(p:Bool)(l:LB)(q:Bool)(m:LB)(h:ae)(Q:VH)(k:au (p==q) (FW SS 168 [(strOf l),(strOf m)] h λf g=>∃e:LB,∃d:Int,f=(.tuple ⟨[(strOf e),(.int .i64 d)]⟩)/\FW SS 142 [(strOf e),(.int .i64 d)] g λb c=>yS b λa=>Q (.tuple ⟨[(.bool p),(strOf a)]⟩) c) (FW SS 169 [(strOf l),(strOf m)] h λi j=>yI .i64 i λh=>au (decide ((h:Int)<0)) (FW SS 170 [(strOf m),(strOf l)] j λf g=>∃e:LB,∃d:Int,f=(.tuple ⟨[(strOf e),(.int .i64 d)]⟩)/\FW SS 142 [(strOf e),(.int .i64 d)] g λb c=>yS b λa=>Q (.tuple ⟨[(.bool q),(strOf a)]⟩) c) (FW SS 170 [(strOf l),(strOf m)] j λf g=>∃e:LB,∃d:Int,f=(.tuple ⟨[(strOf e),(.int .i64 d)]⟩)/\FW SS 142 [(strOf e),(.int .i64 d)] g λb c=>yS b λa=>Q (.tuple ⟨[(.bool p),(strOf a)]⟩) c))):FW SS 141 [(.bool p),(strOf l),(.bool q),(strOf m)] h Q:=cV RD Tryz.func141 (ai k)
noncomputable def VJ:FD:=cP Tryz.f149 []
theorem Rw(l m:LB)(h:ae)(Q:VH)(N:FW SS 145 [(strOf l)] h λP D=>∃F:LV,∃H:Bool,P=(.tuple ⟨[(.agg ⟨F⟩),(.bool H)]⟩)/\xN (bw SS.P 155) D λ_ I=>xU (ah SS.P 155 (pA (D.next)) (.agg ⟨F⟩) I) I λ_ M=>FW SS 145 [(strOf m)] M λO C=>∃J:LV,∃G:Bool,O=(.tuple ⟨[(.agg ⟨J⟩),(.bool G)]⟩)/\xN (bw SS.P 155) C λ_ K=>xU (ah SS.P 155 (pA (C.next)) (.agg ⟨J⟩) K) K λ_ B=>au (!H) (Q (.int .i64 0) B) (au (!G) (Q (.int .i64 0) B) (fP 155 (pA (D.next)) 0 λE=>lB (room B 27) E λA=>fP 155 (pA (D.next)) 1 λR=>lS (room B 27) R λL=>fP 155 (pA (C.next)) 2 λz=>lS (room B 27) z λy=>FW SS 143 [(strOf L),(strOf y)] (room B 27) λw x=>∃v:LB,∃u:Int,w=(.tuple ⟨[(strOf v),(.int .i64 u)]⟩)/\FW SS 142 [(strOf v),(.int .i64 u)] x λs t=>yS s λr=>fP 155 (pA (C.next)) 0 λq=>lB t q λp=>fP 155 (pA (C.next)) 1 λo=>lS t o λn=>fP 155 (pA (D.next)) 2 λm=>lS t m λl=>FW SS 143 [(strOf n),(strOf l)] t λj k=>∃i:LB,∃h:Int,j=(.tuple ⟨[(strOf i),(.int .i64 h)]⟩)/\FW SS 142 [(strOf i),(.int .i64 h)] k λf g=>yS f λe=>FW SS 141 [(.bool A),(strOf r),(.bool (!p)),(strOf e)] g λc d=>∃b:Bool,∃a:LB,c=(.tuple ⟨[(.bool b),(strOf a)]⟩)/\(aj SS.P 4 x (.pointer (some E))=some (.bool A)/\dM 4 (.bool A) (.bool A)=true)/\(aj SS.P 4 t (.pointer (some E))=some (.bool A)/\dM 4 (.bool A) (.bool A)=true)/\(aj SS.P 4 k (.pointer (some E))=some (.bool A)/\dM 4 (.bool A) (.bool A)=true)/\(aj SS.P 4 g (.pointer (some E))=some (.bool A)/\dM 4 (.bool A) (.bool A)=true)/\(aj SS.P 4 (room B 27) (.pointer (some q))=some (.bool p)/\dM 4 (.bool p) (.bool p)=true)/\(aj SS.P 4 x (.pointer (some q))=some (.bool p)/\dM 4 (.bool p) (.bool p)=true)/\(aj SS.P 4 k (.pointer (some q))=some (.bool p)/\dM 4 (.bool p) (.bool p)=true)/\(aj SS.P 4 g (.pointer (some q))=some (.bool p)/\dM 4 (.bool p) (.bool p)=true)/\(aj SS.P 9 (room B 27) (.pointer (some o))=some (strOf n)/\dM 4 (strOf n) (strOf n)=true)/\(aj SS.P 9 x (.pointer (some o))=some (strOf n)/\dM 4 (strOf n) (strOf n)=true)/\(aj SS.P 9 (room B 27) (.pointer (some m))=some (strOf l)/\dM 4 (strOf l) (strOf l)=true)/\(aj SS.P 9 x (.pointer (some m))=some (strOf l)/\dM 4 (strOf l) (strOf l)=true)/\au ((a:LB)==[48]) (Q (.int .i64 0) d) (au b (Q (.int .i64 (-1)) d) (Q (.int .i64 1) d))))):FW SS 149 [(strOf l),(strOf m)] h Q:=cV VJ Tryz.func149 (ai N)
noncomputable def Ut:FD:=cP Tryz.f204 []
theorem Qw(l m:LB)(h:ae)(Q:VH)(b:au (decide ((((l:LB).length:Int):Int)>=((m:LB).length:Int))) (xS (bK SS.P 9 (strOf l) none (some (.int .i64 ((m:LB).length:Int))) none h) λa=>Q (.bool ((a:LB)==m)) h) (Q (.bool false) h)):FW SS 204 [(strOf l),(strOf m)] h Q:=cV Ut Tryz.func204 (ai b)
noncomputable def gT:FD:=cP Tryz.f171 [([1,1,0,1,0,0],[0,22,23])]
abbrev mV(l:LB)(i:Int):LV:=[(strOf l),(.int .i64 (l.length:Int)),(.int .i64 i)]
theorem By(l:LB)(h:ae)(Q:VH)(b:au ((l:LB)==[]) (Q (.bool false) h) (au (decide ((((l:LB).length:Int):Int)>1000)) (Q (.bool false) h) (au (decide ((((l:LB).length:Int):Int)>1)) (xI .u8 (bU SS.P 9 (strOf l) (.int .i64 0)) λa=>au (((a:Int)==48)) (Q (.bool false) h) (LL SS gT [1,1,0,1,0,0] [(strOf l),(.int .i64 ((l:LB).length:Int)),(.int .i64 0)] h (KK SS gT [1,1,0,1,0] [] (EE SS gT Q)))) (LL SS gT [1,1,0,1,0,0] [(strOf l),(.int .i64 ((l:LB).length:Int)),(.int .i64 0)] h (KK SS gT [1,1,0,1,0] [] (EE SS gT Q)))))):FW SS 171 [(strOf l)] h Q:=cV gT Tryz.func171 (ai b)
theorem vX(l:LB)  (d:Nat->Int->ae->Prop) (Q:VH) (step:∀(c:Nat)(i:Int)(f:Nat->Value)(h:ae),d c i h->au (decide ((i:Int)<(l.length:Int))) (xI .u8 (bU SS.P 9 (strOf l) (.int .i64 i)) λb=>au (decide ((b:Int)<48)) (Q (.bool false) h) (xI .u8 (bU SS.P 9 (strOf l) (.int .i64 i)) λa=>au (decide ((a:Int)>57)) (Q (.bool false) h) (aM (fy (mV l) d) c [(strOf l),(.int .i64 (l.length:Int)),(.int .i64 (wrap .i64 (i+1)))] h))) (Q (.bool true) h)) (c:Nat) {i:Int} {h:ae} (e:d c i h):LL SS gT [1,1,0,1,0,0] (mV l i) h (KK SS gT [1,1,0,1,0] [] (EE SS gT Q)):=
 dm (mV l) d (λc i f h e=>ai (step c i f h e)) c e
noncomputable def gU:FD:=cP Tryz.f136 [([1,1,0,1,0,0],[0,3])]
abbrev ig(l:LB)(i:Int):LV:=[(strOf l),(.int .i64 i)]
theorem BE(l:LB)(h:ae)(Q:VH)(b:au (decide ((((l:LB).length:Int):Int)<1)) (Q (.bool false) h) (au (decide ((((l:LB).length:Int):Int)>1000)) (Q (.bool false) h) (xI .u8 (bU SS.P 9 (strOf l) (.int .i64 0)) λa=>au (((a:Int)==48)) (au (decide ((((l:LB).length:Int):Int)>1)) (Q (.bool false) h) (LL SS gU [1,1,0,1,0,0] (ig l 0) h (KK SS gU [1,1,0,1,0] [] (EE SS gU Q)))) (LL SS gU [1,1,0,1,0,0] (ig l 0) h (KK SS gU [1,1,0,1,0] [] (EE SS gU Q)))))):FW SS 136 [(strOf l)] h Q:=cV gU Tryz.func136 (ai b)
theorem vZ(l:LB)  (d:Nat->Int->ae->Prop) (Q:VH) (step:∀(c:Nat)(i:Int)(f:Nat->Value)(h:ae),d c i h->au (decide ((i:Int)<((l:LB).length:Int))) (xI .u8 (bU SS.P 9 (strOf l) (.int .i64 i)) λb=>au (decide ((b:Int)<48)) (Q (.bool false) h) (xI .u8 (bU SS.P 9 (strOf l) (.int .i64 i)) λa=>au (decide ((a:Int)>57)) (Q (.bool false) h) (aM (fy (ig l) d) c [(strOf l),(.int .i64 (wrap .i64 (i+1)))] h))) (Q (.bool true) h)) (c:Nat) {i:Int} {h:ae} (e:d c i h):LL SS gU [1,1,0,1,0,0] (ig l i) h (KK SS gU [1,1,0,1,0] [] (EE SS gU Q)):=
 dm (ig l) d (λc i f h e=>ai (step c i f h e)) c e
noncomputable def iS:FD:=cP Tryz.f154 [([1,1,0,1,0,0],[0,1,5])]
abbrev iT(a b:LB)(i:Int):LV:=[(strOf a),(strOf b),(.int .i64 i)]
theorem FJ(a b:LB)(h:ae)(Q:VH)(c:au (((((a:LB).length:Int):Int) !=((b:LB).length:Int))) (au (decide ((((a:LB).length:Int):Int)<((b:LB).length:Int))) (Q (.int .i64 (-1)) h) (Q (.int .i64 1) h)) (LL SS iS [1,1,0,1,0,0] (iT a b 0) h (KK SS iS [1,1,0,1,0] [] (EE SS iS Q)))):FW SS 154 [(strOf a),(strOf b)] h Q:=cV iS Tryz.func154 (ai c)
theorem tA(a b:LB)  (g:Nat->Int->ae->Prop) (Q:VH) (step:∀(f:Nat)(i:Int)(k:Nat->Value)(h:ae),g f i h->au (decide ((i:Int)<((a:LB).length:Int))) (xI .u8 (bU SS.P 9 (strOf a) (.int .i64 i)) λe=>xI .u8 (bU SS.P 9 (strOf b) (.int .i64 i)) λd=>au (((e:Int) !=d)) (xI .u8 (bU SS.P 9 (strOf a) (.int .i64 i)) λc=>xI .u8 (bU SS.P 9 (strOf b) (.int .i64 i)) λa=>au (decide ((c:Int)<a)) (Q (.int .i64 (-1)) (room (room h 7) 7)) (Q (.int .i64 1) (room (room h 7) 7))) (aM (fy (iT a b) g) f [(strOf a),(strOf b),(.int .i64 (wrap .i64 (i+1)))] (room h 7))) (Q (.int .i64 0) h)) (f:Nat) {i:Int} {h:ae} (j:g f i h):LL SS iS [1,1,0,1,0,0] (iT a b i) h (KK SS iS [1,1,0,1,0] [] (EE SS iS Q)):=
 dm (iT a b) g (λf i k h j=>ai (step f i k h j)) f j
noncomputable def ZD:FD:=cP Tryz.f151 []
theorem VT(a:OA)(n c:Nat)(i:Int)(h:ae)(Q:VH)(d:au (decide ((i:Int)<(n:Int))) (iP 22 (.slice a n c) (.int .i64 i) λb=>lI h b λa=>Q (.int .i64 a) h) (Q (.int .i64 0) h)):FW SS 151 [(.slice a n c),(.int .i64 i)] h Q:=cV ZD Tryz.func151 (ai d)
noncomputable def jQ:FD:=cP Tryz.f150 [([1,1,0,1,0,0],[0,3,4])]
abbrev ml(l:LB)(i:Int)(a:OA)(n c:Nat):LV:=[(strOf l),(.slice a n c),(.int .i64 i)]
theorem ID(l:LB)(h:ae)(Q:VH)(a:LL SS jQ [1,1,0,1,0,0] [(strOf l),nA,(.int .i64 (wrap .i64 (((l:LB).length:Int)-1)))] h (KK SS jQ [1,1,0,1,0] [] (EE SS jQ Q))):FW SS 150 [(strOf l)] h Q:=cV jQ Tryz.func150 (ai a)
theorem uD(l:LB)  (m:Nat->Int->OA->Nat->Nat->ae->Prop) (Q:VH) (step:∀(k:Nat)(i:Int)(a:OA)(n c:Nat)(p:Nat->Value)(h:ae),m k i a n c h->au (decide ((i:Int)>=0)) (xI .u8 (bU SS.P 9 (strOf l) (.int .i64 i)) λj=>xR (aI SS.P 22 1 [(0,(.int .i64 (wrap .i64 (wrap .u8 (j-48)))))]) h λ_ e f g=>xE (bM SS.P 22 22 (.slice a n c) (sA (h.next) e f) g) g λa b c _ d=>aM (LA4 (ml l) m) k [(strOf l),(.slice a b c),(.int .i64 (wrap .i64 (i-1)))] d) (Q (.slice a n c) h)) (k:Nat) {i:Int} {a:OA} {n c:Nat} {h:ae} (o:m k i a n c h):LL SS jQ [1,1,0,1,0,0] (ml l i a n c) h (KK SS jQ [1,1,0,1,0] [] (EE SS jQ Q)):=
 We (ml l) m (λk i a n c p h o=>ai (step k i a n c p h o)) k o
variable{i:Nat}{a:Option Addr}{n:Nat}{x:List Nat}
theorem Z4:SS.P.underlying 9=some .string:=by kernel_rfl
theorem B2(l:List UInt8){h:ae}{i:Int}(b:0<=i)(a:i<l.length):bU SS.P 9 (strOf l) (.int .i64 i)=some (.int .u8 ((l.getD i.toNat 0).toNat:Nat)):=oP Z4 l _ b a
theorem T9{c:UInt8}(a:¬(c.toNat:Int)<48)(b:¬(c.toNat:Int)>57):bV c=true:=by
 unfold bV;simp;omega
theorem Ie{c:UInt8}(h:(c.toNat:Int)<48\/(c.toNat:Int)>57):bV c=false:=by
 unfold bV;simp;omega
theorem wq(b:i<s.length)(c:(s.take i).all bV=true)(a:bV (s.getD i 0)=true):(s.take (i+1)).all bV=true:=by
 rw[List.take_succ_eq_append_getElem b,List.all_append,c];rw[gD,gE b]at a;simpa using a
theorem uZ(b:i<s.length)(a:bV (s.getD i 0)=false):s.all bV=false:=by
 rw[gD,gE b]at a;exact List.all_eq_false.2 ⟨s[i],getElem_mem b,by simpa using a⟩
theorem EG(h:1000<s.length):Num.valid s=false:=by
 unfold Num.valid;rw[decide_eq_false (by omega:¬s.length<=1000)];simp
theorem EH(h:1<s.length)(b:s.getD 0 0=48):Num.valid s=false:=by
 unfold Num.valid
 cases s with
 |nil=>rfl
 |cons a s=>
  have b:a=48:=b;subst b;rw[decide_eq_true h];simp
theorem vI(e:s≠[])(c:s.length<=1000)(d:1<s.length->s.getD 0 0≠48):Num.valid s=s.all bV:=by
 unfold Num.valid
 cases s with
 |nil=>exact absurd rfl e
 |cons a s=>
  rw[decide_eq_true c];by_cases h:1<(a::s).length
  ·have b:a≠48:=d h;rw[decide_eq_true h];simp[b]
  ·rw[decide_eq_false h];simp
theorem Hd{c:UInt8}:((c.toNat:Int)==48)=true↔c=48:=by
 rw[beq_iff_eq];refine⟨λh=>UInt8.toNat_inj.1 ?_,λh=>by rw[h];rfl⟩;have a:(48:UInt8).toNat=48:=rfl;omega
theorem dO(l:List UInt8)(h:ae):FW SS 171 [strOf l] h (λv o=>v = .bool (Num.valid l)/\o=h):=by
 by_cases j:l.length<=1000
 case neg=>
  refine By l h _ (aa (λa=>?_) (λa=>aa (λd=>?_) (λd=>?_)))
  ·obtain rfl:l=[]:=by simpa using a
   exact⟨rfl,rfl⟩
  ·exact⟨by rw[EG (by omega)],rfl⟩
  ·have:=dF d;omega
 have L:=λ(n:Num.valid l=l.all bV)=>vX l (λm i g=>0<=i/\i<=l.length/\m=l.length-i.toNat/\(l.take i.toNat).all bV=true/\g=h) (λv o=>v = .bool (Num.valid l)/\o=h) (by
  intro m i;intros;rename_i g t;obtain⟨a,d,k,b,rfl⟩:=t;refine aa (λc=>?_) (λc=>?_)
  ·have c:=dT c;have f:i.toNat<l.length:=by omega
   refine⟨_,B2 (h:=g) l a c,aa (λq=>?_) (λq=>⟨_,B2 (h:=g) l a c,aa (λp=>?_) (λp=>?_)⟩)⟩
   ·exact⟨by rw[n,uZ f (Ie (.inl (dT q)))],rfl⟩
   ·exact⟨by rw[n,uZ f (Ie (.inr (dT p)))],rfl⟩
   ·have s:wrap .i64 (i+1)=i+1:=aD (by omega) (by omega);refine cm (m-1) (by omega) ?_;rw[s];refine⟨by omega,by omega,by omega,?_,rfl⟩;rw[show(i+1).toNat=i.toNat+1 by omega];exact wq f b (T9 (dF q) (dF p))
  ·have c:=dF c;refine⟨?_,rfl⟩;rw[n,<-b,take_of_length_le (by omega)])
 refine By l h _ (aa (λa=>?_) (λa=>aa (λd=>?_) (λd=>?_)))
 ·obtain rfl:l=[]:=by simpa using a
  exact⟨rfl,rfl⟩
 ·have:=dT d;omega
 ·have a:l≠[]:=by simpa using a
  have r:=List.length_pos_iff.2 a;refine aa (λk=>⟨_,B2 (h:=h) l (by omega) (by omega),aa (λb=>?_) (λb=>?_)⟩) (λk=>?_)
  ·exact⟨by rw[EH (by have:=dT k;omega) (Hd.1 b)],rfl⟩
  ·exact L (vI a j λ_ e=>by have b:(((l.getD 0 0).toNat:Int)==48)=false:=b;rw[Hd.2 e]at b;cases b) l.length ⟨by omega,by omega,by simp,by simp,rfl⟩
  ·exact L (vI a j λe=>by have:=dF k;omega) l.length ⟨by omega,by omega,by simp,by simp,rfl⟩
theorem dA(l:List UInt8)(h:ae):FW SS 136 [strOf l] h (λv o=>v = .bool (Num.valid l)/\o=h):=by
 by_cases j:l.length<=1000
 case neg=>
  refine BE l h _ (aa (λa=>?_) (λa=>aa (λd=>?_) (λd=>?_)))
  ·have a:=dT a;omega
  ·exact⟨by rw[EG (by omega)],rfl⟩
  ·have:=dF d;omega
 have L:=λ(n:Num.valid l=l.all bV)=>vZ l (λm i g=>0<=i/\i<=l.length/\m=l.length-i.toNat/\(l.take i.toNat).all bV=true/\g=h) (λv o=>v = .bool (Num.valid l)/\o=h) (by
  intro m i;intros;rename_i g t;obtain⟨a,d,k,b,rfl⟩:=t;refine aa (λc=>?_) (λc=>?_)
  ·have c:=dT c;have f:i.toNat<l.length:=by omega
   refine⟨_,B2 (h:=g) l a c,aa (λq=>?_) (λq=>⟨_,B2 (h:=g) l a c,aa (λp=>?_) (λp=>?_)⟩)⟩
   ·exact⟨by rw[n,uZ f (Ie (.inl (dT q)))],rfl⟩
   ·exact⟨by rw[n,uZ f (Ie (.inr (dT p)))],rfl⟩
   ·have s:wrap .i64 (i+1)=i+1:=aD (by omega) (by omega);refine cm (m-1) (by omega) ?_;rw[s];refine⟨by omega,by omega,by omega,?_,rfl⟩;rw[show(i+1).toNat=i.toNat+1 by omega];exact wq f b (T9 (dF q) (dF p))
  ·have c:=dF c;refine⟨?_,rfl⟩;rw[n,<-b,take_of_length_le (by omega)])
 refine BE l h _ (aa (λa=>?_) (λa=>aa (λd=>?_) (λd=>?_)))
 ·have a:=dT a;obtain rfl:l=[]:=List.eq_nil_of_length_eq_zero (by omega);exact⟨rfl,rfl⟩
 ·have:=dT d;omega
 ·have a:=dF a;have a:l≠[]:=λe=>by subst e;simp at a
  have r:=List.length_pos_iff.2 a;refine⟨_,B2 (h:=h) l (by omega) (by omega),aa (λb=>aa (λk=>?_) (λk=>?_)) (λb=>?_)⟩
  ·exact⟨by rw[EH (by have:=dT k;omega) (Hd.1 b)],rfl⟩
  ·exact L (vI a j λe=>by have:=dF k;omega) l.length ⟨by omega,by omega,by simp,by simp,rfl⟩
  ·exact L (vI a j λ_ e=>by have b:(((l.getD 0 0).toNat:Int)==48)=false:=b;rw[Hd.2 e]at b;cases b) l.length ⟨by omega,by omega,by simp,by simp,rfl⟩
theorem M9{a b:Nat}(h:((a:Int) !=b)=true):a≠b:=by
 intro e;subst e;simp at h
theorem MG{a b:Nat}(h:((a:Int) !=b)=false):a=b:=by
 by_cases e:a=b
 ·exact e
 ·exfalso;have:(a:Int)≠b:=by omega
  simp[this]at h
theorem qM(m n:Nat)(y:(ag m).length<9223372036854775807)(x:(ag n).length<9223372036854775807)(h:ae)(w:Wf h):FW SS 154 [strOf (ag m),strOf (ag n)] h (λv q=>v = .int .i64 (eO m n)/\Ok h q):=by
 have L:=λ(s:(ag m).length=(ag n).length)=>tA (ag m) (ag n) (λk i g=>0<=i/\i<=(ag m).length/\k=(ag m).length-i.toNat/\(ag m).take i.toNat=(ag n).take i.toNat/\Ok h g) (λv q=>v = .int .i64 (eO m n)/\Ok h q) (by
  intro k i;intros;rename_i g u;obtain⟨a,f,z,e,j⟩:=u;refine aa (λb=>?_) (λb=>?_)
  ·have b:=dT b;have r:i.toNat<(ag m).length:=by omega
   have p:i.toNat<(ag n).length:=by omega
   have l:(ag m)[i.toNat]?=some ((ag m).getD i.toNat 0):=by rw[gD,gE r];rfl
   have o:(ag n)[i.toNat]?=some ((ag n).getD i.toNat 0):=by rw[gD,gE p];rfl
   refine⟨_,B2 (h:=g) _ a b,_,B2 (h:=g) _ a (by omega),aa (λc=>?_) (λc=>?_)⟩
   ·refine⟨_,B2 (h:=g) _ a b,_,B2 (h:=g) _ a (by omega),aa (λd=>?_) (λd=>?_)⟩
    ·have d:=dT d;have:=pg (de n) (de m) s e l o (UInt8.lt_iff_toNat_lt.2 (by omega));rw[bD,bD]at this;exact⟨by rw[lK this],(j.room 7).room 7⟩
    ·have d:=dF d;have c:=M9 c;have:=pg (de m) (de n) s.symm e.symm o l (UInt8.lt_iff_toNat_lt.2 (by omega));rw[bD,bD]at this;exact⟨by rw[lJ this],(j.room 7).room 7⟩
   ·have c:=MG c;have t:wrap .i64 (i+1)=i+1:=aD (by omega) (by omega);refine cm (k-1) (by omega) ?_;rw[t];refine⟨by omega,by omega,by omega,?_,j.room 7⟩;rw[show(i+1).toNat=i.toNat+1 by omega,List.take_add_one,List.take_add_one,e,l,o,UInt8.toNat_inj.1 c]
  ·have b:=dF b;rw[take_of_length_le (by omega),take_of_length_le (by omega)]at e;exact⟨by rw[tP e,qT],j⟩)
 refine FJ _ _ h _ (aa (λa=>aa (λf=>?_) (λf=>?_)) (λa=>?_))
 ·exact⟨by rw[lK (l8 (by have:=dT f;omega))],Ok.refl w⟩
 ·have a:=M9 a;exact⟨by rw[lJ (l8 (by have:=dF f;omega))],Ok.refl w⟩
 ·have a:=MG a;exact L a (ag m).length ⟨by omega,by omega,by simp,by simp,Ok.refl w⟩
def iv(d:Nat):Value:= .int .i64 (d:Int)
theorem qN:SS.P.underlying 22=some (.slice 3):=by kernel_rfl
theorem SK:aG SS.P 3=some 1:=by kernel_rfl
theorem He:SS.P.underlying 3=some (.int .i64):=by kernel_rfl
theorem F9:Go.Ab.isAgg SS.P 3=false:=by kernel_rfl
noncomputable def re3:TypeInfo:=(fh SS.P 3).getD default
theorem VP:fh SS.P 3=some re3:=by kernel_rfl
theorem K2:re3.size=1:=by kernel_rfl
theorem GM:re3.bytes=8:=by kernel_rfl
theorem ue(l:List Nat)(i:Nat)(h:i<l.length):(l.map iv).getD i undef = .int .i64 (l.getD i 0:Nat):=by
 simp[gD,List.getElem?_map,gE h,iv]
theorem uC{c:Nat}(r:Rd h 3 (.slice a n c) (x.map iv))(i:Nat):FW SS 151 [.slice a n c,.int .i64 (i:Int)] h (λv g=>v = .int .i64 (x.getD i 0:Nat)/\g=h):=by
 have e:=r.len;rw[lM]at e;refine VT a n c i h _ (aa (λb=>?_) (λb=>?_))
 ·have b:=dT b;obtain⟨p,f,d⟩:=r.at_ qN SK He F9 (k:= .i64) (i:=(i:Int)) (by omega) (by rw[lM];omega);rw[Int.toNat_natCast,ue x i (by omega)]at d;exact⟨p,f,_,d,rfl,rfl⟩
 ·have b:=dF b;refine⟨?_,rfl⟩;rw[gD,List.getElem?_eq_none (by omega)];rfl
noncomputable def mX:FD:=cP Tryz.f155 [([1,1,1,0,1,0,0],[0,1,5,6,7])]
abbrev iZ(a:OA)(n c:Nat)(b:OA)(m d:Nat)(k cc:Nat)(r:OA)(e f:Nat):LV:=[(.slice a n c),(.slice b m d),(.slice r e f),(iA cc),(iA k)]
theorem ND(a:OA)(n c:Nat)(b:OA)(m d:Nat)(h:ae)(Q:VH)(e:LL SS mX [1,1,1,0,1,0,0] (iZ a n c b m d 0 0 none 0 0) h (KK SS mX [1,1,1,0,1,0] [] (EE SS mX Q))):FW SS 155 [(.slice a n c),(.slice b m d)] h Q:=cV mX Tryz.func155 (ai e)
theorem xv(a:OA)(n c:Nat)(b:OA)(m d:Nat)  (x:Nat->Nat->Nat->OA->Nat->Nat->ae->Prop) (Q:VH) (step:∀(y:Nat)(k cc:Nat)(r:OA)(v w:Nat)(A:Nat->Value)(h:ae),x y k cc r v w h->au (decide (((k:Int):Int)<(n:Int))) (FW SS 151 [(.slice a n c),(iA k)] h λt u=>yI .i64 t λs=>FW SS 151 [(.slice b m d),(iA k)] u λp q=>yI .i64 p λo=>au (decide ((wrap .i64 (wrap .i64 (s-o)-(cc:Int)):Int)<0)) (xR (aI SS.P 22 1 [(0,(.int .i64 (wrap .i64 (wrap .i64 (wrap .i64 (s-o)-(cc:Int))+10))))]) q λ_ i j l=>xE (bM SS.P 22 22 (.slice r v w) (sA (q.next) i j) l) l λe f g _ h=>aM (CG (iZ a n c b m d) x) y [(.slice a n c),(.slice b m d),(.slice e f g),(.int .i64 1),(.int .i64 (wrap .i64 ((k:Int)+1)))] h) (xR (aI SS.P 22 1 [(0,(.int .i64 (wrap .i64 (wrap .i64 (s-o)-(cc:Int)))))]) q λ_ i j l=>xE (bM SS.P 22 22 (.slice r v w) (sA (q.next) i j) l) l λe f g _ h=>aM (CG (iZ a n c b m d) x) y [(.slice a n c),(.slice b m d),(.slice e f g),(.int .i64 0),(.int .i64 (wrap .i64 ((k:Int)+1)))] h)) (Q (.slice r v w) h)) (y:Nat) {k cc:Nat} {r:OA} {v w:Nat} {h:ae} (z:x y k cc r v w h):LL SS mX [1,1,1,0,1,0,0] (iZ a n c b m d k cc r v w) h (KK SS mX [1,1,1,0,1,0] [] (EE SS mX Q)):=
 GU (iZ a n c b m d) x (λy k cc r v w A h z=>ai (step y k cc r v w A h z)) y z
noncomputable def eL:FD:=cP Tryz.f153 [([1,1,0,0,0],[0,3]),([1,1,1,1,0,1,0,0],[0,4,5])]
abbrev oe(a:OA)(n c:Nat)(z:Int):LV:=[(.slice a n c),(.int .i64 z)]
abbrev ja(a:OA)(n c:Nat)(i:Int)(r:OA)(b d:Nat):LV:=[(.slice a n c),(.slice r b d),(.int .i64 i)]
theorem NF(a:OA)(n c:Nat)(h:ae)(Q:VH)(b:LL SS eL [1,1,0,0,0] [(.slice a n c),(iA n)] h (KK SS eL [1,1,0,0] [] (EE SS eL Q))):FW SS 153 [(.slice a n c)] h Q:=cV eL Tryz.func153 (ai b)
theorem xw(a:OA)(n c:Nat)  (f:Nat->Int->ae->Prop) (Q:VH) (step:∀(e:Nat)(z:Int)(i:Nat->Value)(h:ae),f e z h->au (decide ((z:Int)>1)) (iP 22 (.slice a n c) (.int .i64 (wrap .i64 (z-1))) λd=>lI h d λb=>au (((b:Int)==0)) (aM (fy (oe a n c) f) e [(.slice a n c),(.int .i64 (wrap .i64 (z-1)))] h) (LL SS eL [1,1,1,1,0,1,0,0] (ja a n c (wrap .i64 (z-1)) none 0 0) h (KK SS eL [1,1,1,1,0,1,0] [] (EE SS eL Q)))) (LL SS eL [1,1,1,1,0,1,0,0] (ja a n c (wrap .i64 (z-1)) none 0 0) h (KK SS eL [1,1,1,1,0,1,0] [] (EE SS eL Q)))) (e:Nat) {z:Int} {h:ae} (g:f e z h):LL SS eL [1,1,0,0,0] (oe a n c z) h (KK SS eL [1,1,0,0] [] (EE SS eL Q)):=
 dm (oe a n c) f (λe z i h g=>ai (step e z i h g)) e g
theorem xx(a:OA)(n c:Nat)  (s:Nat->Int->OA->Nat->Nat->ae->Prop) (Q:VH) (step:∀(q:Nat)(i:Int)(r:OA)(o p:Nat)(u:Nat->Value)(h:ae),s q i r o p h->au (decide ((i:Int)>=0)) (iP 22 (.slice a n c) (.int .i64 i) λm=>lI h m λl=>xR (aI SS.P 172 1 [(0,(.int .u8 (wrap .u8 (wrap .i64 (48+l)))))]) h λ_ g j k=>xE (bM SS.P 172 172 (.slice r o p) (sA (h.next) g j) k) k λb d e _ f=>aM (LA4 (ja a n c) s) q [(.slice a n c),(.slice b d e),(.int .i64 (wrap .i64 (i-1)))] f) (au ((((o:Int):Int)==0)) (Q (strOf [48]) h) (xS (Cb SS.P 172 9 (.slice r o p) h) λa=>Q (strOf a) h))) (q:Nat) {i:Int} {r:OA} {o p:Nat} {h:ae} (t:s q i r o p h):LL SS eL [1,1,1,1,0,1,0,0] (ja a n c i r o p) h (KK SS eL [1,1,1,1,0,1,0] [] (EE SS eL Q)):=
 We (ja a n c) s (λq i r o p u h t=>ai (step q i r o p u h t)) q t
variable{g:ae}{m:Nat}{y:List Nat}
theorem Qe(z:Int):aI SS.P 22 1 [(0,.int .i64 z)]=some (.cells [.int .i64 z] 3 1 true,mY 1 1):=by kernel_rfl
theorem aaI(z:Int):aI SS.P 172 1 [(0,.int .u8 z)]=some (.cells [.int .u8 z] 5 1 true,mY 1 1):=by kernel_rfl
theorem BH:SS.P.underlying 172=some (.slice 5):=by kernel_rfl
theorem un5:SS.P.underlying 5=some (.int .u8):=by kernel_rfl
theorem zz5:aG SS.P 5=some 1:=by kernel_rfl
theorem ag5:Go.Ab.isAgg SS.P 5=false:=by kernel_rfl
noncomputable def re5:TypeInfo:=(fh SS.P 5).getD default
theorem ab7:fh SS.P 5=some re5:=by kernel_rfl
theorem VQ:re5.size=1:=by kernel_rfl
theorem RH:re5.bytes=1:=by kernel_rfl
theorem Eu(d:Wf g)(e:Ok g h){v:Value}{a:List Value}(o:eC g h 3 v a)(z:Int)(f:a.length<=100000):
  ∃(b:Option Addr)(n c:Nat)(u:dV),bM SS.P 22 22 v (.slice (some ⟨h.next,0,none⟩) 1 1) (h.push (.cells [.int .i64 z] 3 1 true))=some (.slice b n c,u)/\n=a.length+1/\eC g (u.app (h.push (.cells [.int .i64 z] 3 1 true))) 3 (.slice b n c) (a++[.int .i64 z])/\Ok g (u.app (h.push (.cells [.int .i64 z] 3 1 true))):=
 eC.snoc qN VP K2 d e o rfl (by rw[GM];omega) (by omega)
theorem Pf(d:Wf g)(e:Ok g h){v:Value}{a:List Value}(o:eC g h 5 v a)(z:Int)(f:a.length<=100000):
  ∃(b:Option Addr)(n c:Nat)(u:dV),bM SS.P 172 172 v (.slice (some ⟨h.next,0,none⟩) 1 1) (h.push (.cells [.int .u8 z] 5 1 true))=some (.slice b n c,u)/\n=a.length+1/\eC g (u.app (h.push (.cells [.int .u8 z] 5 1 true))) 5 (.slice b n c) (a++[.int .u8 z])/\Ok g (u.app (h.push (.cells [.int .u8 z] 5 1 true))):=
 eC.snoc BH ab7 VQ d e o rfl (by rw[RH];omega) (by omega)
theorem Qq(c:UInt8)(l:List UInt8):fD (c::l)=fD l++[jB c]:=by simp[fD]
theorem Gk(h:i<s.length):s.drop i=s.getD i 0::s.drop (i+1):=by
 rw[gD,gE h,drop_eq_getElem_cons h];rfl
theorem Da(a:s.all bV=true){i:Nat}(h:i<s.length):bV (s.getD i 0)=true:=by
 rw[gD,gE h];exact all_eq_true.1 a _ (getElem_mem h)
def ji(h:ae)(e:TypeId)(d:List Value):VH:=λv b=>∃a n c,v = .slice a n c/\eC h b e (.slice a n c) d/\Ok h b
theorem sK(l:List UInt8)(C:l.all bV=true)(t:l.length<=100000)(h:ae)(w:Wf h):FW SS 150 [strOf l] h (ji h 3 ((fD l).map iv)):=by
 have L:=uD l (λk i a n c g=> -1<=i/\i<l.length/\k=(i+1).toNat/\eC h g 3 (.slice a n c) ((fD (l.drop (i+1).toNat)).map iv)/\Ok h g) (ji h 3 ((fD l).map iv)) (by
  intro k i a n c;intros;rename_i g y;obtain⟨F,x,E,r,s⟩:=y;refine aa (λf=>?_) (λf=>?_)
  ·have f:=dT f;have j:i.toNat<l.length:=by omega
   have p:=Da C j;have D:=lN.1 p;refine⟨_,B2 (h:=g) l f x,_,_,_,Qe _,?_⟩;obtain⟨b,m,d,u,B,G,o,z⟩:=Eu w s r (wrap .i64 (wrap .u8 ((((l.getD i.toNat 0).toNat:Nat):Int)-48))) (by simp[fD];omega);refine⟨b,m,d,u,B,?_⟩;have e:wrap .i64 (i-1)=i-1:=aD (by omega) (by omega);refine Ur (k-1) (by omega) ?_;rw[e];refine⟨by omega,by omega,by omega,?_,z⟩;have q:wrap .i64 (wrap .u8 ((((l.getD i.toNat 0).toNat:Nat):Int)-48))=((jB (l.getD i.toNat 0):Nat):Int):=by
    rw[ta (by omega) (by omega),aD (by omega) (by omega)];unfold jB;omega
   rw[q]at o;have A:(i-1+1).toNat=i.toNat:=by omega
   have v:(i+1).toNat=i.toNat+1:=by omega
   rw[v]at o;rw[q,A,Gk j,Qq,map_append];exact o
  ·have f:=dF f;obtain rfl:i = -1:=by omega
   exact⟨a,n,c,rfl,r,s⟩)
 have e:wrap .i64 ((l.length:Int)-1)=(l.length:Int)-1:=aD (by omega) (by omega);refine ID l h _ ?_;refine L l.length ⟨by rw[e];omega,by rw[e];omega,by rw[e];omega,?_,Ok.refl w⟩;rw[e,show((l.length:Int)-1+1).toNat=l.length by omega,List.drop_length];exact .inl ⟨rfl,rfl⟩
theorem Ej{b:Option Addr}{c:Nat}(N:Rd h 3 (.slice a n c) (x.map iv))(S:Rd h 3 (.slice b m i) (y.map iv))(R:∀i∈x,i<10)(U:∀i∈y,i<10)(O:x.length<=100000)(w:Wf h):
  FW SS 155 [.slice a n c,.slice b m i] h (ji h 3 ((bm fx x y 0 x.length 0).map iv)):=by
 have W:n=x.length:=by have:=N.len;rwa[lM]at this
 have J:∀k,eV fx x y 0 0 k<=1:=Oo (λp q c _=>by unfold fx;split<;>simp) x y 0 0 (by omega);have L:=xv a n c b m i (λt k cc r z B g=>k<=x.length/\t=x.length-k/\cc=eV fx x y 0 0 k/\eC h g 3 (.slice r z B) ((bm fx x y 0 k 0).map iv)/\Ok h g) (ji h 3 ((bm fx x y 0 x.length 0).map iv)) (by
  intro t k cc r z B;intros;rename_i g T;obtain⟨X,Z,P,F,o⟩:=T;have V:=J k;have hp:=ba (by omega) R k;have Y:=ba (by omega) U k;refine aa (λs=>?_) (λs=>?_)
  ·have s:=dT s;refine(uC (N.ok o) k).mono ?_;rintro _ _ ⟨rfl,rfl⟩;refine⟨_,rfl,(uC (S.ok o) k).mono ?_⟩;rintro _ _ ⟨rfl,rfl⟩;refine⟨_,rfl,?_⟩;have M:wrap .i64 (((x.getD k 0:Nat):Int)-((y.getD k 0:Nat):Int))=((x.getD k 0:Nat):Int)-((y.getD k 0:Nat):Int):=aD (by omega) (by omega);have I:wrap .i64 (((x.getD k 0:Nat):Int)-((y.getD k 0:Nat):Int)-(cc:Int))=((x.getD k 0:Nat):Int)-((y.getD k 0:Nat):Int)-(cc:Int):=aD (by omega) (by omega);have K:wrap .i64 ((k:Int)+1)=((k+1:Nat):Int):=by rw[aD (by omega) (by omega)];omega
   dsimp only;rw[M,I,K];have v:(bm fx x y 0 k 0).length=k:=fk _ _ _ _ _ _;have f:=iB fx x y k 0 0;have j:eV fx x y 0 0 (k+1)=(fx (x.getD (0+k) 0) (y.getD (0+k) 0) (eV fx x y 0 0 k)).2:=rfl;rw[Nat.zero_add,<-P]at f j;refine aa (λl=>?_) (λl=>?_)
   ·have l:=dT l;refine⟨_,_,_,Qe _,?_⟩;obtain⟨E,C,A,u,D,Q,e,H⟩:=Eu w o F (wrap .i64 (((x.getD k 0:Nat):Int)-((y.getD k 0:Nat):Int)-(cc:Int)+10)) (by rw[lM,v];omega);refine⟨E,C,A,u,D,?_⟩;have d:fx (x.getD k 0) (y.getD k 0) cc=(x.getD k 0+10-y.getD k 0-cc,1):=by unfold fx;rw[if_pos (by omega)]
    refine pv (b:=1) (t-1) (by omega) ⟨by omega,by omega,by rw[j,d],?_,H⟩;rw[f,d,map_append];have G:wrap .i64 (((x.getD k 0:Nat):Int)-((y.getD k 0:Nat):Int)-(cc:Int)+10)=((x.getD k 0+10-y.getD k 0-cc:Nat):Int):=by rw[aD (by omega) (by omega)];omega
    rw[G]at e⊢;exact e
   ·have l:=dF l;refine⟨_,_,_,Qe _,?_⟩;obtain⟨E,C,A,u,D,Q,e,H⟩:=Eu w o F (((x.getD k 0:Nat):Int)-((y.getD k 0:Nat):Int)-(cc:Int)) (by rw[lM,v];omega);refine⟨E,C,A,u,D,?_⟩;have d:fx (x.getD k 0) (y.getD k 0) cc=(x.getD k 0-y.getD k 0-cc,0):=by unfold fx;rw[if_neg (by omega)]
    refine pv (b:=0) (t-1) (by omega) ⟨by omega,by omega,by rw[j,d],?_,H⟩;rw[f,d,map_append];have G:((x.getD k 0:Nat):Int)-((y.getD k 0:Nat):Int)-(cc:Int)=((x.getD k 0-y.getD k 0-cc:Nat):Int):=by omega
    rw[G]at e⊢;exact e
  ·have s:=dF s;obtain rfl:k=x.length:=by omega
   exact⟨r,z,B,rfl,F,o⟩)
 exact ND a n c b m i h _ (L x.length (k:=0) (cc:=0) ⟨by omega,by omega,rfl,.inl ⟨rfl,rfl⟩,Ok.refl w⟩)
theorem Pg(r:Rd h 5 v (s.map tw)):Cb SS.P 172 9 v h=some (strOf s):=Z5 BH Z4 un5 r
theorem FO{z:Nat}(b:i<z)(c:z<=x.length):((x.take z).drop i).reverse=((x.take z).drop (i+1)).reverse++[x.getD i 0]:=by
 have a:i<(x.take z).length:=by rw[length_take];omega
 rw[drop_eq_getElem_cons a,List.reverse_cons,List.getElem_take,gD,gE (by omega)];rfl
theorem sL{c:Nat}(L:Rd h 3 (.slice a n c) (x.map iv))(P:∀d∈x,d<10)(V:x.length<=100000)(w:Wf h):
  FW SS 153 [.slice a n c] h (λv D=>v=strOf (ag (Num.bv 10 x))/\Ok h D):=by
 have hn:n=x.length:=by have:=L.len;rwa[lM]at this
 have Q:=λ(f:Nat) (hz:f<=x.length) (T:0<x.length->0<f) (W:0<x.length->tR (x.take f)=ag (Num.bv 10 x))=>xx a n c (λy i r H R g=> -1<=i/\i<(f:Int)/\y=(i+1).toNat/\eC h g 5 (.slice r H R) ((((x.take f).drop (i+1).toNat).reverse.map fj).map tw)/\Ok h g) (λv D=>v=strOf (ag (Num.bv 10 x))/\Ok h D) (by
  intro y i r H R;intros;rename_i g M;obtain⟨h1,h2,Y,t,J⟩:=M;refine aa (λq=>?_) (λq=>?_)
  ·have q:=dT q;obtain⟨p,K,F⟩:=(L.ok J).at_ qN SK He F9 (k:= .i64) (i:=i) q (by rw[lM];omega);rw[ue x i.toNat (by omega)]at F;refine⟨p,K,_,F,_,_,_,aaI _,?_⟩;have N:=ba (by omega) P i.toNat;obtain⟨b,m,d,u,g6,g7,O,g9⟩:=Pf w J t (wrap .u8 (wrap .i64 (48+((x.getD i.toNat 0:Nat):Int)))) (by simp;omega);refine⟨b,m,d,u,g6,?_⟩;have I:wrap .i64 (i-1)=i-1:=aD (by omega) (by omega);refine Ur (y-1) (by omega) ?_;rw[I];refine⟨by omega,by omega,by omega,?_,g9⟩;rw[show(i-1+1).toNat=i.toNat by omega,FO (by omega) hz,map_append,map_append];rw[show(i+1).toNat=i.toNat+1 by omega]at O;have X:tw (fj (x.getD i.toNat 0)) = .int .u8 (wrap .u8 (wrap .i64 (48+((x.getD i.toNat 0:Nat):Int)))):=by
    unfold tw;rw[jD N,aD (by omega) (by omega),ta (by omega) (by omega)]
    first|rfl|(congr 1;omega)
   show eC h _ 5 _ (_++[tw (fj (x.getD i.toNat 0))]);rw[X];exact O
  ·have q:=dF q;obtain rfl:i = -1:=by omega
   have e0:((-1:Int)+1).toNat=0:=rfl;rw[e0,drop_zero]at t;have S:=t.len;simp only[lM,List.length_reverse,length_take]at S;refine aa (λo=>?_) (λo=>?_)
   ·have o:(H:Int)=0:=by simpa using o
    have E:x=[]:=by
     rcases Nat.eq_zero_or_pos x.length with e|e
     ·exact List.eq_nil_of_length_eq_zero e
     ·have:=T e;omega
    subst E;exact⟨by rw[show Num.bv 10 []=0 from rfl,ox],J⟩
   ·have o:¬(H:Int)=0:=by simpa using o
    have E:0<x.length:=by omega
    have:=Pg t.rd;rw[show((x.take f).reverse.map fj)=tR (x.take f)from rfl,W E]at this;exact⟨_,this,rfl,J⟩)
 have s:∀(f:Nat),eC h h 5 (.slice none 0 0) ((((x.take f).drop ((f:Int)-1+1).toNat).reverse.map fj).map tw):=λf=>by
  rw[show((f:Int)-1+1).toNat=f by omega,List.drop_of_length_le (by rw[length_take];omega)];exact .inl ⟨rfl,rfl⟩
 have L1:=xw a n c (λy z g=>0<=z/\z<=x.length/\y=z.toNat/\(0<x.length->0<z)/\(∀j:Nat,z<=j->x.getD j 0=0)/\g=h) (λv D=>v=strOf (ag (Num.bv 10 x))/\Ok h D) (by
  intro y z;intros;rename_i g M;obtain⟨h1,h2,Y,t,q,rfl⟩:=M;obtain⟨f,rfl⟩:∃f:Nat,z=f:=⟨z.toNat,by omega⟩
  have I:wrap .i64 ((f:Int)-1)=(f:Int)-1:=aD (by omega) (by omega);have B:(1<f->x.getD (f-1) 0≠0)->0<x.length->tR (x.take f)=ag (Num.bv 10 x):=λZ C=>by
   rw[<-CN (l:=x) (n:=f) (λj U=>q j (by omega))];refine PD (λd N=>P d (List.mem_of_mem_take N)) (λe=>?_) (λA=>?_)
   ·have:=congrArg List.length e;rw[length_take]at this;have h9:min f x.length=0:=this;have:=t C;omega
   ·rw[length_take]at A;have G:=Z (by omega);rw[List.getLast?_eq_getElem?,length_take,List.getElem?_take,if_pos (by omega)];rw[gD,gE (by omega)]at G;rw[show min f x.length-1=f-1 by omega,gE (by omega)];simpa using G
  refine aa (λo=>?_) (λo=>?_)
  ·have o:=dT o;rw[I];obtain⟨p,K,F⟩:=L.at_ qN SK He F9 (k:= .i64) (i:=(f:Int)-1) (by omega) (by rw[lM];omega);rw[ue x _ (by omega),show((f:Int)-1).toNat=f-1 by omega]at F;refine⟨p,K,_,F,aa (λA=>?_) (λA=>?_)⟩
   ·have A:((x.getD (f-1) 0:Nat):Int)=0:=by simpa using A
    refine cm (y-1) (by omega) ⟨by omega,by omega,by omega,λ_=>by omega,λj U=>?_,rfl⟩;rcases lt_or_ge j f with G|G
    ·obtain rfl:j=f-1:=by omega
     omega
    ·exact q j (by omega)
   ·have A:¬((x.getD (f-1) 0:Nat):Int)=0:=by simpa using A
    exact Q f (by omega) (λC=>by have:=t C;omega) (B λ_=>by omega) f ⟨by omega,by omega,by omega,s f,Ok.refl w⟩
  ·have o:=dF o;rw[I];exact Q f (by omega) (λC=>by have:=t C;omega) (B λhh=>by omega) f ⟨by omega,by omega,by omega,s f,Ok.refl w⟩)
 refine NF a n c h _ (L1 n (z:=(n:Int)) ⟨by omega,by omega,by omega,λC=>by omega,λj U=>?_,rfl⟩);rw[gD,List.getElem?_eq_none (by omega)];rfl
noncomputable def cO:FD:=cP Tryz.f137 [([1,1,1,1,1,0,1,0,0],[0,1,7,8,9]),([1,1,1,1,1,0,1,0,0,1,0,0,1,1,0,0,0],[0,1,7,8,9,10]),([1,1,1,1,1,1,1,0,0,0],[0,1,7,8,11])]
abbrev gf(a b:LB)(k:Nat)(r:LB)(q:OA)(d c:Nat):LV:=[(strOf a),(strOf b),(.slice q d c),(strOf r),(iA k)]
abbrev jR(a b:LB)(k:Nat)(q:OA)(e c:Nat)(r:LB)(d:Int):LV:=[(strOf a),(strOf b),(.slice q e c),(strOf r),(iA k),(.int .u8 d)]
abbrev mn(a b r:LB)(q:OA)(d c:Nat)(z:Nat):LV:=[(strOf a),(strOf b),(.slice q d c),(strOf r),(iA z)]
theorem RT(a b:LB)(h:ae)(Q:VH)(i:FW SS 136 [(strOf a)] h λg h=>yB g λf=>au (!f) (Q (.tuple ⟨[(strOf []),(strOf []),(.int .i64 1)]⟩) h) (FW SS 136 [(strOf b)] h λd e=>yB d λc=>au (!c) (Q (.tuple ⟨[(strOf []),(strOf []),(.int .i64 1)]⟩) e) (au ((b:LB)==[48]) (Q (.tuple ⟨[(strOf []),(strOf []),(.int .i64 4)]⟩) e) (LL SS cO [1,1,1,1,1,0,1,0,0] (gf a b 0 ([48]) none 0 0) e (KK SS cO [1,1,1,1,1,0,1,0] [] (EE SS cO Q)))))):FW SS 137 [(strOf a),(strOf b)] h Q:=cV cO Tryz.func137 (ai i)
theorem ze(a b:LB)  (g:Nat->Nat->LB->OA->Nat->Nat->ae->Prop) (Q:VH) (step:∀(i:Nat)(k:Nat)(r:LB)(q:OA)(f e:Nat)(l:Nat->Value)(h:ae),g i k r q f e h->au (decide (((k:Int):Int)<((a:LB).length:Int))) (au ((r:LB)==[48]) (xS (bK SS.P 9 (strOf a) (some (iA k)) (some (.int .i64 (wrap .i64 ((k:Int)+1)))) none h) λc=>LL SS cO [1,1,1,1,1,0,1,0,0,1,0,0,1,1,0,0,0] (jR a b k q f e c 48) h (KK SS cO [1,0,0,1,1,0,0] [1,1,1,1,1,0,1,0,0] (RR cO [1,1,1,1,1,0,1,0,0] (CG (gf a b) g) i (KK SS cO [1,1,1,1,1,0,1,0] [] (EE SS cO Q))))) (xS (bK SS.P 9 (strOf a) (some (iA k)) (some (.int .i64 (wrap .i64 ((k:Int)+1)))) none h) λd=>xS (aA SS.P .add 9 (strOf r) (strOf d)) λc=>LL SS cO [1,1,1,1,1,0,1,0,0,1,0,0,1,1,0,0,0] (jR a b k q f e c 48) h (KK SS cO [1,0,0,1,1,0,0] [1,1,1,1,1,0,1,0,0] (RR cO [1,1,1,1,1,0,1,0,0] (CG (gf a b) g) i (KK SS cO [1,1,1,1,1,0,1,0] [] (EE SS cO Q)))))) (LL SS cO [1,1,1,1,1,1,1,0,0,0] (mn a b r q f e 0) h (KK SS cO [1,1,1,1,1,1,1,0,0] [] (EE SS cO Q)))) (i:Nat) {k:Nat} {r:LB} {q:OA} {f e:Nat} {h:ae} (j:g i k r q f e h):LL SS cO [1,1,1,1,1,0,1,0,0] (gf a b k r q f e) h (KK SS cO [1,1,1,1,1,0,1,0] [] (EE SS cO Q)):=
 GU (gf a b) g (λi k r q f e l h j=>ai (step i k r q f e l h j)) i j
theorem zg(a b:LB)(E:Nat->Nat->LB->OA->Nat->Nat->ae->Prop)(G k:Nat)(q:OA)(D C:Nat)(B:Nat->LB->Int->ae->Prop)(Q:VH)(step:∀(A:Nat) (r:LB) (d:Int) (H:Nat->Value) (h:ae),B A r d h->FW SS 154 [(strOf r),(strOf b)] h λy z=>yI .i64 y λx=>au (decide ((x:Int)>=0)) (FW SS 150 [(strOf r)] z λv w=>yL v λs t u=>FW SS 150 [(strOf b)] w λp r=>yL p λm n o=>FW SS 155 [(.slice s t u),(.slice m n o)] r λj l=>yL j λg h i=>FW SS 153 [(.slice g h i)] l λe f=>yS e λc=>aM (pU (jR a b k q D C) B) A [(strOf a),(strOf b),(.slice q D C),(strOf c),(iA k),(.int .u8 (wrap .u8 (d+1)))] f) (xR (aI SS.P 172 1 [(0,(.int .u8 d))]) z λ_ g h i=>xE (bM SS.P 172 172 (.slice q D C) (sA (z.next) g h) i) i λc d e _ f=>aM (CG (gf a b) E) G [(strOf a),(strOf b),(.slice c d e),(strOf r),(.int .i64 (wrap .i64 ((k:Int)+1)))] f))(A:Nat){r:LB}{d:Int}{h:ae}(F:B A r d h):LL SS cO [1,1,1,1,1,0,1,0,0,1,0,0,1,1,0,0,0] (jR a b k q D C r d) h (KK SS cO [1,0,0,1,1,0,0] [1,1,1,1,1,0,1,0,0] (RR cO [1,1,1,1,1,0,1,0,0] (CG (gf a b) E) G (KK SS cO [1,1,1,1,1,0,1,0] [] (EE SS cO Q)))):=
 mw (jR a b k q D C) B (λA r d H h F=>ai (step A r d H h F)) A F
theorem zh(a b:LB)(r:LB)(q:OA)(g j:Nat)(k:Nat->Nat->ae->Prop)(Q:VH)(step:∀(i:Nat) (z:Nat) (m:Nat->Value) (h:ae),k i z h->au (decide (((z:Int):Int)<wrap .i64 ((g:Int)-1))) (iP 172 (.slice q g j) (iA z) λf=>xI .u8 (aj SS.P 5 h (.pointer (some f))) λe=>au (((e:Int)==48)) (aM (fy (mn a b r q g j) k) i [(strOf a),(strOf b),(.slice q g j),(strOf r),(.int .i64 (wrap .i64 ((z:Int)+1)))] h) (xL (bK SS.P 172 (.slice q g j) (some (iA z)) none none h) λb c d=>xS (Cb SS.P 172 9 (.slice b c d) h) λa=>Q (.tuple ⟨[(strOf a),(strOf r),(.int .i64 0)]⟩) h)) (xL (bK SS.P 172 (.slice q g j) (some (iA z)) none none h) λb c d=>xS (Cb SS.P 172 9 (.slice b c d) h) λa=>Q (.tuple ⟨[(strOf a),(strOf r),(.int .i64 0)]⟩) h))(i:Nat){z:Nat}{h:ae}(l:k i z h):LL SS cO [1,1,1,1,1,1,1,0,0,0] (mn a b r q g j z) h (KK SS cO [1,1,1,1,1,1,1,0,0] [] (EE SS cO Q)):=
 dm (mn a b r q g j) k (λi z m h l=>ai (step i z m h l)) i l
noncomputable def pI:FD:=cP Tryz.f118 [([1,1,0,0,0],[0,1])]
abbrev mq  (x y:LB):LV:=[(strOf x),(strOf y)]
theorem RU(a b:LB)(h:ae)(Q:VH)(i:FW SS 136 [(strOf a)] h λg h=>yB g λf=>au (!f) (Q (.tuple ⟨[(strOf []),(.int .i64 1)]⟩) h) (FW SS 136 [(strOf b)] h λd e=>yB d λc=>au (!c) (Q (.tuple ⟨[(strOf []),(.int .i64 1)]⟩) e) (LL SS pI [1,1,0,0,0] (mq a b) e (KK SS pI [1,1,0,0] [] (EE SS pI Q))))):FW SS 118 [(strOf a),(strOf b)] h Q:=cV pI Tryz.func118 (ai i)
theorem zi(a b:LB)  (g:Nat->LB->LB->ae->Prop) (Q:VH) (step:∀(f:Nat)(x y:LB)(j:Nat->Value)(h:ae),g f x y h->au (!((y:LB)==[48])) (FW SS 137 [(strOf x),(strOf y)] h λd e=>∃c:LB,∃b:LB,∃a:Int,d=(.tuple ⟨[(strOf c),(strOf b),(.int .i64 a)]⟩)/\aM (pU mq g) f [(strOf y),(strOf b)] e) (Q (.tuple ⟨[(strOf x),(.int .i64 0)]⟩) h)) (f:Nat) {x y:LB} {h:ae} (i:g f x y h):LL SS pI [1,1,0,0,0] (mq  x y) h (KK SS pI [1,1,0,0] [] (EE SS pI Q)):=
 mw mq g (λf x y j h i=>ai (step f x y j h i)) f i
variable{k:Nat}
theorem Wu(l:List UInt8){h:ae}{a b:Nat}(c:a<=b)(d:b<=l.length):bK SS.P 9 (strOf l) (some (.int .i64 (a:Int))) (some (.int .i64 (b:Int))) none h=some (strOf ((l.drop a).take (b-a))):=oR Z4 l rfl rfl c d
theorem U9(h:k<s.length):(s.drop k).take (k+1-k)=[s.getD k 0]:=by
 rw[Gk h,show k+1-k=1 by omega];rfl
theorem gj(h:n<10^1000):(ag n).length<=1000:=(dh (by omega)).2 h
theorem MP(h:k<s.length):s[k]?=some (s.getD k 0):=by
 rw[gD,gE h];rfl
def three(a b:List UInt8)(e:Int):Value:= .tuple ⟨[strOf a,strOf b,.int .i64 e]⟩
theorem AM(m n:Nat)(L:m<10^1000)(B:n<10^1000)(U:0<n)(h:ae)(w:Wf h):FW SS 137 [strOf (ag m),strOf (ag n)] h (λv D=>v=three (ag (m/n)) (ag (m%n)) 0/\Ok h D):=by
 have u4:=gj L;have z8:=gj B;have z1:=de m;generalize ha:ag m=a at*;have y5:Num.val a=m:=by rw[<-ha,bD]
 have y7:¬ag n=[48]:=λe=>by have:=bR.1 e;omega
 have L3:=λ(g0:ae) (r:List UInt8) (q:Option Addr) (l x:Nat) (c:List UInt8) (M:eC h g0 5 (.slice q l x) (c.map tw)) (hq:c.all bV=true) (z7:0<c.length) (z9:c.length<=1000) (y4:Num.val c=m/n) (y:r=ag (m%n)) (N:Ok h g0)=>
  zh a (ag n) r q l x (λs z g=>z+1<=c.length/\s=c.length-z/\(∀i,i<z->c[i]?=some 48)/\g=g0) (λv D=>v=three (ag (m/n)) (ag (m%n)) 0/\Ok h D) (by
  intro s z;intros;rename_i g O;obtain⟨h1,h2,h3,rfl⟩:=O;have u2:l=c.length:=by have:=M.len;rwa[lM]at this
  have hw:wrap .i64 ((l:Int)-1)=(l:Int)-1:=aD (by omega) (by omega);have E:wrap .i64 ((z:Int)+1)=((z+1:Nat):Int):=by rw[aD (by omega) (by omega)];omega
  have x3:(z+1<c.length->c[z]?≠some 48)->∃(x4:Option Addr)(x5 x2:Nat),bK SS.P 172 (.slice q l x) (some (.int .i64 (z:Int))) none none g=some (.slice x4 x5 x2)/\∃Y:List UInt8,Cb SS.P 172 9 (.slice x4 x5 x2) g=some (strOf Y)/\(three Y r 0=three (ag (m/n)) (ag (m%n)) 0/\Ok h g):=λhs=>by
   obtain⟨a',n',c',g1,A⟩:=M.from_ BH zz5 (z:=z) (by rw[lM];omega);rw[<-List.map_drop]at A;refine⟨a',n',c',g1,_,Pg A,?_,N⟩;rw[Jv hq (by omega) h3 hs,y4,y]
  rw[hw,E];refine aa (λo=>?_) (λo=>?_)
  ·have o:=dT o;obtain⟨p,A,X⟩:=M.rd.at_ BH zz5 un5 ag5 (k:= .i64) (i:=(z:Int)) (by omega) (by rw[lM];omega);have C:(c.map tw).getD ((z:Int)).toNat undef = .int .u8 ((c.getD z 0).toNat:Nat):=by
    rw[Int.toNat_natCast,gD,List.getElem?_map,MP (by omega)];rfl
   rw[C]at X;refine⟨p,A,_,X,aa (λf=>?_) (λf=>?_)⟩
   ·have f:=Hd.1 f;refine cm (s-1) (by omega) ⟨by omega,by omega,λi O=>?_,rfl⟩;rcases lt_or_ge i z with t|t
    ·exact h3 i t
    ·obtain rfl:i=z:=by omega
     rw[MP (by omega),f]
   ·exact x3 λ_ e=>by
     rw[MP (by omega)]at e;rw[Hd.2 (oI e)]at f;cases f
  ·have o:=dF o;exact x3 λhh=>by omega)
 have L1:=ze a (ag n) (λs k r q l x g=>k<=a.length/\s=a.length-k/\r=ag (Num.val (a.take k)%n)/\(∃c:List UInt8,c.length=k/\c.all bV=true/\Num.val c=Num.val (a.take k)/n/\eC h g 5 (.slice q l x) (c.map tw))/\Ok h g) (λv D=>v=three (ag (m/n)) (ag (m%n)) 0/\Ok h D) (by
  intro s k r q l x;intros;rename_i g O;obtain⟨h1,h2,y,⟨c,y2,x9,G,M⟩,N⟩:=O;refine aa (λo=>?_) (λo=>?_)
  ·have o:=dT o;have F:k<a.length:=by omega
   have S:=Da z1 F;have y6:=rJ S;have y0:=mod_lt (Num.val (a.take k)) U;have E:wrap .i64 ((k:Int)+1)=((k+1:Nat):Int):=by rw[aD (by omega) (by omega)];omega
   have x7:Num.val (a.take (k+1))=10*Num.val (a.take k)+jB (a.getD k 0):=tj (MP F);have K:=Hw (r:=Num.val (a.take k)%n) S;have L2:=zg a (ag n) (λs k r q l x g=>k<=a.length/\s=a.length-k/\r=ag (Num.val (a.take k)%n)/\(∃c:List UInt8,c.length=k/\c.all bV=true/\Num.val c=Num.val (a.take k)/n/\eC h g 5 (.slice q l x) (c.map tw))/\Ok h g) s k q l x
    (λx0 r d A=>∃j:Nat,d=48+(j:Int)/\j*n<=10*(Num.val (a.take k)%n)+jB (a.getD k 0)/\r=ag (10*(Num.val (a.take k)%n)+jB (a.getD k 0)-j*n)/\x0=10*(Num.val (a.take k)%n)+jB (a.getD k 0)-j*n/\Ok g A) (λv D=>v=three (ag (m/n)) (ag (m%n)) 0/\Ok h D) (by
    intro x0 r2 d;intros;rename_i A z4;obtain⟨j,rfl,x6,rfl,u3,J⟩:=z4;have P:=Jj U y6 x6;generalize hR:10*(Num.val (a.take k)%n)+jB (a.getD k 0)=R at*;have z6:(ag (R-j*n)).length<=1001:=by
     have z5:=pe n;refine Nat.le_trans ((dh (k:=(ag n).length+1) (by omega)).2 ?_) (by omega);rw[Nat.pow_succ];generalize 10^(ag n).length=T at z5;clear B L;omega
    have y9:=N.trans J;refine(qM (R-j*n) n (by omega) (by omega) A y9.wf).mono ?_;rintro _ X ⟨rfl,H⟩;refine⟨_,rfl,aa (λf=>?_) (λf=>?_)⟩
    ·have f:=FX.1 (dT f);refine(sK _ (de _) (by omega) X H.wf).mono ?_;rintro _ g4 ⟨a1,n1,c1,rfl,o1,x8⟩;refine⟨a1,n1,c1,rfl,(sK _ (de _) (by omega) g4 x8.wf).mono ?_⟩;rintro _ g5 ⟨a2,n2,c2,rfl,o2,Q⟩;refine⟨a2,n2,c2,rfl,(Ej (o1.rd.ok Q) o2.rd (mI (de _)) (mI (de _)) (by rw[lq];omega) Q.wf).mono ?_⟩;rintro _ g6 ⟨a3,n3,c3,rfl,o3,x1⟩;refine⟨a3,n3,c3,rfl,(sL o3.rd (FZ (mI (de _)) (mI (de _)) _ _ _ (by omega)) (by rw[fk,lq];omega) x1.wf).mono ?_⟩;rintro _ g7 ⟨rfl,z0⟩;have z2:(ag n).length<=(ag (R-j*n)).length:=by
      rcases lt_or_ge (ag (R-j*n)).length (ag n).length with t|t
      ·have:=l8 t;omega
      ·exact t
     have Z:=FY (mI (de (R-j*n))) (mI (de n)) (by rw[lq,lq];exact z2) (by rw[gx,gx,bD,bD];exact f);rw[gx,gx,bD,bD]at Z;rw[Z];refine⟨_,rfl,?_⟩;have y3:wrap .u8 (48+(j:Int)+1)=48+((j+1:Nat):Int):=by rw[ta (by omega) (by omega)];omega
     rw[y3];have C:(j+1)*n=j*n+n:=Nat.succ_mul j n;exact hW (R-j*n-n) (by clear B L;omega) ⟨j+1,rfl,by rw[C];clear B L;omega,by rw[C,Nat.sub_sub],by rw[C,Nat.sub_sub],((((J.trans H).trans x8).trans Q).trans x1).trans z0⟩
    ·have f:¬(n<=R-j*n):=λe=>by have:=dF f;exact this (FX.2 e)
     have W:=Jk (V:=Num.val (a.take k)) (d:=jB (a.getD k 0)) U (k:=j) (by rw[hR];exact x6) (by rw[hR,Nat.succ_mul];clear B L;omega);rw[hR]at W;refine⟨_,_,_,aaI _,?_⟩;have y8:=N.trans (J.trans H);obtain⟨b,mm,dd,u,g6,g7,g8,g9⟩:=Pf w y8 (M.ok (J.trans H)) (48+(j:Int)) (by rw[lM];omega);refine⟨b,mm,dd,u,g6,?_⟩;rw[E];refine pv (s-1) (by omega) ⟨by omega,by omega,?_,⟨c++[fj j],by simp[y2],?_,?_,?_⟩,g9⟩
     ·rw[x7,W.2]
     ·rw[List.all_append,x9];simp[tJ P]
     ·rw[iG,G,CU P,x7,W.1]
     ·rw[map_append];have C:tw (fj j) = .int .u8 (48+(j:Int)):=by
       unfold tw;rw[jD P];rfl
      show eC h _ 5 _ (_++[tw (fj j)]);rw[C];exact g8)
   have I:∀r',r'=ag (10*(Num.val (a.take k)%n)+jB (a.getD k 0))->∃j:Nat,(48:Int)=48+(j:Int)/\j*n<=10*(Num.val (a.take k)%n)+jB (a.getD k 0)/\r'=ag (10*(Num.val (a.take k)%n)+jB (a.getD k 0)-j*n)/\10*(Num.val (a.take k)%n)+jB (a.getD k 0)=10*(Num.val (a.take k)%n)+jB (a.getD k 0)-j*n/\Ok g g:=
    λr' e=>⟨0,rfl,by rw[Nat.zero_mul];exact Nat.zero_le _,by rw[Nat.zero_mul,sub_zero];exact e,by rw[Nat.zero_mul,sub_zero],Ok.refl N.wf⟩
   rw[E];refine aa (λf=>?_) (λf=>?_)
   ·have f:r=[48]:=by simpa using f
    refine⟨_,Wu a (by omega) (by omega),?_⟩;rw[U9 F];refine L2 _ (I _ ?_);rw[<-K,if_pos (by rw[<-y];exact f)]
   ·have f:¬r=[48]:=by simpa using f
    refine⟨_,Wu a (by omega) (by omega),?_⟩;rw[U9 F];have u1:r.length<=1000:=by
     rw[y];exact gj (Nat.lt_trans y0 B)
    refine⟨_,rU r [a.getD k 0] (by simp;omega),?_⟩;refine L2 _ (I _ ?_);rw[<-K,if_neg (by rw[<-y];exact f),y]
  ·have o:=dF o;obtain rfl:k=a.length:=by omega
   rw[List.take_length]at G y;rw[y5]at G y;have u0:0<a.length:=by rw[<-ha];exact nY m
   exact L3 g r q l x c M x9 (by omega) (by omega) G y N c.length (z:=0) ⟨by omega,by omega,λi O=>by omega,rfl⟩)
 refine RT a (ag n) h _ ?_;refine(dA a h).mono ?_;rintro _ _ ⟨rfl,rfl⟩;have z3:Num.valid a=true:=by rw[<-ha];exact ey.2 L
 have y1:Num.valid (ag n)=true:=ey.2 B;refine⟨_,rfl,aa (λf=>?_) (λf=>?_)⟩
 ·rw[z3]at f;cases f
 ·refine(dA (ag n) _).mono ?_;rintro _ _ ⟨rfl,rfl⟩;refine⟨_,rfl,aa (λt=>?_) (λt=>aa (λh8=>?_) (λh8=>?_))⟩
  ·rw[y1]at t;cases t
  ·exact absurd (by simpa using h8) y7
  ·exact L1 a.length (k:=0) ⟨by omega,by omega,by rw[take_zero];simp[ke,ox],⟨[],rfl,rfl,by rw[take_zero];simp[ke],.inl ⟨rfl,rfl⟩⟩,Ok.refl w⟩
def two(a:List UInt8)(e:Int):Value:= .tuple ⟨[strOf a,.int .i64 e]⟩
def B1(a b:List UInt8):Value:=if Num.valid a=true/\Num.valid b=true then two (ag (Nat.gcd (Num.val a) (Num.val b))) 0 else two [] 1
theorem GP(a b:List UInt8)(h:ae)(w:Wf h):FW SS 118 [strOf a,strOf b] h (λv s=>v=B1 a b/\Ok h s):=by
 refine RU a b h _ ?_;refine(dA a h).mono ?_;rintro _ _ ⟨rfl,rfl⟩;refine⟨_,rfl,aa (λi=>?_) (λi=>?_)⟩
 ·refine⟨?_,Ok.refl w⟩;unfold B1;rw[if_neg (λe=>by rw[e.1]at i;cases i)];rfl
 ·refine(dA b _).mono ?_;rintro _ _ ⟨rfl,rfl⟩;refine⟨_,rfl,aa (λf=>?_) (λf=>?_)⟩
  ·refine⟨?_,Ok.refl w⟩;unfold B1;rw[if_neg (λe=>by rw[e.2]at f;cases f)];rfl
  ·have o:Num.valid a=true:=by simpa using i
   have k:Num.valid b=true:=by simpa using f
   obtain⟨m,rfl,C,_⟩:=cG o;obtain⟨n,rfl,B,_⟩:=cG k;rename_i u _ _;have L:=zi (ag m) (ag n) (λc x y g=>∃p q:Nat,x=ag p/\y=ag q/\p<10^1000/\q<10^1000/\Nat.gcd p q=Nat.gcd m n/\c=q/\Ok u g) (λv s=>v=B1 (ag m) (ag n)/\Ok u s) (by
    intro c x y;intros;rename_i g D;obtain⟨p,q,rfl,rfl,F,r,A,rfl,t⟩:=D;refine aa (λd=>?_) (λd=>?_)
    ·have d:¬ag c=[48]:=by simpa using d
     have l:0<c:=Nat.pos_of_ne_zero λe=>d (bR.2 e);refine(AM p c F r l g t.wf).mono ?_;rintro _ G ⟨rfl,z⟩;refine⟨_,_,_,rfl,?_⟩;have j:=mod_lt p l;exact hW (p%c) j ⟨c,p%c,rfl,rfl,r,Nat.lt_trans j r,by rw[<-L8];exact A,rfl,t.trans z⟩
    ·have d:ag c=[48]:=by simpa using d
     have E:=bR.1 d;subst E;refine⟨?_,t⟩;unfold B1;rw[if_pos ⟨o,k⟩,bD,bD,<-A,Nat.gcd_zero_right];rfl)
   exact L n ⟨m,n,rfl,rfl,C,B,rfl,rfl,Ok.refl w⟩
noncomputable def mU:FD:=cP Tryz.f174 [([1,0,0,0],[0])]
abbrev oc  (r:OA) (m d:Nat):LV:=[(.slice r m d)]
theorem DY(a:OA)(n c:Nat)(h:ae)(Q:VH)(b:LL SS mU [1,0,0,0] [(.slice a n c)] h (KK SS mU [1,0,0] [] (EE SS mU Q))):FW SS 174 [(.slice a n c)] h Q:=cV mU Tryz.func174 (ai b)
theorem pD(a:OA)(n c:Nat)  (i:Nat->OA->Nat->Nat->ae->Prop) (Q:VH) (step:∀(g:Nat)(r:OA)(m d:Nat)(k:Nat->Value)(h:ae),i g r m d h->au (decide (((m:Int):Int)>0)) (iP 177 (.slice r m d) (.int .i64 (wrap .i64 ((m:Int)-1))) λf=>xI .u64 (aj SS.P 150 h (.pointer (some f))) λe=>au (((e:Int)==0)) (xL (bK SS.P 177 (.slice r m d) none (some (.int .i64 (wrap .i64 ((m:Int)-1)))) none h) λa b c=>aM (LA3 oc i) g [(.slice a b c)] h) (Q (.slice r m d) h)) (Q (.slice r m d) h)) (g:Nat) {r:OA} {m d:Nat} {h:ae} (j:i g r m d h):LL SS mU [1,0,0,0] (oc  r m d) h (KK SS mU [1,0,0] [] (EE SS mU Q)):=
 Wd oc i (λg r m d k h j=>ai (step g r m d k h j)) g j
noncomputable def df:FD:=cP Tryz.f172 [([1,1,0,0,0],[0,3]),([1,1,0,0,0,1,0,1,1,0,1,0,0],[0,3,4,5,6])]
abbrev gK  (s:LB) (r:OA) (a b:Nat):LV:=[(strOf s),(.slice r a b)]
abbrev jm(s:LB)(r:OA)(b c:Nat)(a:Int)(i v:Int):LV:=[(strOf s),(.slice r b c),(.int .i64 a),(.int .u64 v),(.int .i64 i)]
theorem H9(l:LB)(h:ae)(Q:VH)(a:LL SS df [1,1,0,0,0] [(strOf l),nA] h (KK SS df [1,1,0,0] [] (EE SS df Q))):FW SS 172 [(strOf l)] h Q:=cV df Tryz.func172 (ai a)
theorem uj(l:LB)  (j:Nat->LB->OA->Nat->Nat->ae->Prop) (Q:VH) (step:∀(i:Nat)(s:LB)(r:OA)(f g:Nat)(m:Nat->Value)(h:ae),j i s r f g h->au (decide ((((s:LB).length:Int):Int)>0)) (xI .i64 (su true [(.int .i64 0),(.int .i64 (wrap .i64 (((s:LB).length:Int)-9)))]) λa=>LL SS df [1,1,0,0,0,1,0,1,1,0,1,0,0] (jm s r f g a a 0) h (KK SS df [1,0,1,1,0,1,0] [1,1,0,0,0] (RR df [1,1,0,0,0] (LA4 gK j) i (KK SS df [1,1,0,0] [] (EE SS df Q))))) (FW SS 174 [(.slice r f g)] h λd e=>yL d λa b c=>Q (.slice a b c) e)) (i:Nat) {s:LB} {r:OA} {f g:Nat} {h:ae} (k:j i s r f g h):LL SS df [1,1,0,0,0] (gK  s r f g) h (KK SS df [1,1,0,0] [] (EE SS df Q)):=
 We gK j (λi s r f g m h k=>ai (step i s r f g m h k)) i k
theorem uk(l:LB)(p:Nat->LB->OA->Nat->Nat->ae->Prop)(t:Nat)(s:LB)(r:OA)(n o:Nat)(m:Int)(k:Nat->Int->Int->ae->Prop)(Q:VH)(step:∀(j:Nat) (i v:Int) (u:Nat->Value) (h:ae),k j i v h->au (decide ((i:Int)<((s:LB).length:Int))) (xI .u8 (bU SS.P 9 (strOf s) (.int .i64 i)) λa=>aM (pU (jm s r n o m) k) j [(strOf s),(.slice r n o),(.int .i64 m),(.int .u64 (wrap .u64 (wrap .u64 (10*v)+wrap .u64 (wrap .u8 (a-48))))),(.int .i64 (wrap .i64 (i+1)))] h) (xR (aI SS.P 177 1 [(0,(.int .u64 v))]) h λ_ f g i=>xE (bM SS.P 177 177 (.slice r n o) (sA (h.next) f g) i) i λb c d _ e=>xS (bK SS.P 9 (strOf s) none (some (.int .i64 m)) none e) λa=>aM (LA4 gK p) t [(strOf a),(.slice b c d)] e))(j:Nat){i v:Int}{h:ae}(q:k j i v h):LL SS df [1,1,0,0,0,1,0,1,1,0,1,0,0] (jm s r n o m i v) h (KK SS df [1,0,1,1,0,1,0] [1,1,0,0,0] (RR df [1,1,0,0,0] (LA4 gK p) t (KK SS df [1,1,0,0] [] (EE SS df Q)))):=
 mw (jm s r n o m) k (λj i v u h q=>ai (step j i v u h q)) j q
noncomputable def abX:FD:=cP Tryz.f206 []
theorem Zg(x:Int)(h:ae)(Q:VH)(a:Q (.bool (((x:Int) !=x))) h):FW SS 206 [(.int .u64 x)] h Q:=cV abX Tryz.func206 (ai a)
noncomputable def abE:FD:=cP Tryz.f196 []
theorem YA(x y:Int)(h:ae)(Q:VH)(g:FW SS 206 [(.int .u64 x)] h λe f=>yB e λd=>FW SS 206 [(.int .u64 y)] f λb c=>yB b λa=>au d (au a (Q (.int .i64 0) c) (Q (.int .i64 (-1)) c)) (au a (Q (.int .i64 1) c) (au (decide ((x:Int)<y)) (Q (.int .i64 (-1)) c) (au (decide ((x:Int)>y)) (Q (.int .i64 1) c) (Q (.int .i64 0) c))))):FW SS 196 [(.int .u64 x),(.int .u64 y)] h Q:=cV abE Tryz.func196 (ai g)
noncomputable def abW:FD:=cP Tryz.f165 []
theorem Zf(x:Int)(h:ae)(Q:VH)(a:Q (.bool (((x:Int) !=x))) h):FW SS 165 [(.int .i64 x)] h Q:=cV abW Tryz.func165 (ai a)
noncomputable def abD:FD:=cP Tryz.f195 []
theorem Yy(x y:Int)(h:ae)(Q:VH)(g:FW SS 165 [(.int .i64 x)] h λe f=>yB e λd=>FW SS 165 [(.int .i64 y)] f λb c=>yB b λa=>au d (au a (Q (.int .i64 0) c) (Q (.int .i64 (-1)) c)) (au a (Q (.int .i64 1) c) (au (decide ((x:Int)<y)) (Q (.int .i64 (-1)) c) (au (decide ((x:Int)>y)) (Q (.int .i64 1) c) (Q (.int .i64 0) c))))):FW SS 195 [(.int .i64 x),(.int .i64 y)] h Q:=cV abD Tryz.func195 (ai g)
noncomputable def iO:FD:=cP Tryz.f186 [([1,1,0,1,0,0],[0,1,18,19])]
abbrev iR(a:OA)(n c:Nat)(b:OA)(m d:Nat)(i:Nat):LV:=[(.slice a n c),(.slice b m d),(iA n),(iA i)]
theorem FC(a:OA)(n c:Nat)(b:OA)(m d:Nat)(h:ae)(Q:VH)(e:au ((((n:Int):Int) !=(m:Int))) (FW SS 195 [(iA n),(iA m)] h λb c=>yI .i64 b λa=>Q (.int .i64 a) c) (LL SS iO [1,1,0,1,0,0] (iR a n c b m d 0) h (KK SS iO [1,1,0,1,0] [] (EE SS iO Q)))):FW SS 186 [(.slice a n c),(.slice b m d)] h Q:=cV iO Tryz.func186 (ai e)
theorem tz(a:OA)(n c:Nat)(b:OA)(m d:Nat)  (q:Nat->Nat->ae->Prop) (Q:VH) (step:∀(p:Nat)(i:Nat)(s:Nat->Value)(h:ae),q p i h->au (decide (((i:Int):Int)<(n:Int))) (xP (aB SS.P 177 (.slice a n c) (.int .i64 (wrap .i64 (wrap .i64 ((n:Int)-1)-(i:Int))))) λo=>xI .u64 (aj SS.P 150 (room h 18) (.pointer (some o))) λl=>xP (aB SS.P 177 (.slice b m d) (.int .i64 (wrap .i64 (wrap .i64 ((n:Int)-1)-(i:Int))))) λk=>xI .u64 (aj SS.P 150 (room h 18) (.pointer (some k))) λj=>FW SS 196 [(.int .u64 l),(.int .u64 j)] (room h 18) λf g=>yI .i64 f λe=>au (((e:Int) !=0)) (Q (.int .i64 e) g) (aM (fy (iR a n c b m d) q) p [(.slice a n c),(.slice b m d),(iA n),(.int .i64 (wrap .i64 ((i:Int)+1)))] g)) (Q (.int .i64 0) h)) (p:Nat) {i:Nat} {h:ae} (r:q p i h):LL SS iO [1,1,0,1,0,0] (iR a n c b m d i) h (KK SS iO [1,1,0,1,0] [] (EE SS iO Q)):=
 dm (iR a n c b m d) q (λp i s h r=>ai (step p i s h r)) p r
noncomputable def Sa:FD:=cP Tryz.f213 []
theorem NL(x y z:Int)(p:OA)(h:ae)(Q:VH)(d:xI .u64 (aj SS.P 150 h (.pointer p)) λc=>xI .u64 (aA SS.P .rem 150 (.int .u64 (wrap .u64 (wrap .u64 (x*c)+z))) (.int .u64 1000000000)) λb=>xI .u64 (aA SS.P .quo 150 (.int .u64 (wrap .u64 (wrap .u64 (x*c)+z))) (.int .u64 1000000000)) λa=>Q (.tuple ⟨[(.int .u64 b),(.int .u64 a)]⟩) h):FW SS 213 [(.int .u64 x),(.int .u64 y),(.int .u64 z),(.pointer p)] h Q:=cV Sa Tryz.func213 (ai d)
noncomputable def iL:FD:=cP Tryz.f193 [([1,1,1,0,1,0,0],[0,1,2,7,8,18,19])]
abbrev eY(a:OA)(n c:Nat)(p:OA)(b:Int)(i:Nat)(cy:Int)(r:OA)(d e:Nat):LV:=[(.slice a n c),nA,(.func (.func 213) ⟨[]⟩ ⟨[(.pointer p)]⟩),(.slice r d e),(.int .u64 cy),(.int .i64 b),(iA i)]
theorem Ft(a:OA)(n c:Nat)(p:OA)(h:ae)(Q:VH)(d:xI .i64 (su true [(iA n),(.int .i64 0)]) λb=>LL SS iL [1,1,1,0,1,0,0] [(.slice a n c),nA,(.func (.func 213) ⟨[]⟩ ⟨[(.pointer p)]⟩),nA,(.int .u64 0),(.int .i64 (wrap .i64 (b+1))),(.int .i64 0)] h (KK SS iL [1,1,1,0,1,0] [] (EE SS iL Q))):FW SS 193 [(.slice a n c),nA,(.func (.func 213) ⟨[]⟩ ⟨[(.pointer p)]⟩)] h Q:=cV iL Tryz.func193 (ai d)
theorem tx(a:OA)(n c:Nat)(p:OA)(v:Int)(w:Nat->Nat->Int->OA->Nat->Nat->ae->Prop)(Q:VH)(step:∀(z:Nat) (i:Nat) (cy:Int) (r:OA) (x y:Nat) (B:Nat->Value) (h:ae),w z i cy r x y h->au (decide (((i:Int):Int)<v)) (au (decide (((i:Int):Int)<(n:Int))) (iP 177 (.slice a n c) (iA i) λu=>xI .u64 (aj SS.P 150 h (.pointer (some u))) λt=>au (decide (((i:Int):Int)<0)) (iP 177 nA (iA i) λs=>xI .u64 (aj SS.P 150 h (.pointer (some s))) λq=>FW SS 213 [(.int .u64 t),(.int .u64 q),(.int .u64 cy),(.pointer p)] h λm o=>∃l:Int,∃k:Int,m=(.tuple ⟨[(.int .u64 l),(.int .u64 k)]⟩)/\xR (aI SS.P 177 1 [(0,(.int .u64 l))]) o λ_ g h j=>xE (bM SS.P 177 177 (.slice r x y) (sA (o.next) g h) j) j λb d e _ f=>aM (CG (eY a n c p v) w) z [(.slice a n c),nA,(.func (.func 213) ⟨[]⟩ ⟨[(.pointer p)]⟩),(.slice b d e),(.int .u64 k),(.int .i64 v),(.int .i64 (wrap .i64 ((i:Int)+1)))] f) (FW SS 213 [(.int .u64 t),(.int .u64 0),(.int .u64 cy),(.pointer p)] h λm o=>∃l:Int,∃k:Int,m=(.tuple ⟨[(.int .u64 l),(.int .u64 k)]⟩)/\xR (aI SS.P 177 1 [(0,(.int .u64 l))]) o λ_ g h j=>xE (bM SS.P 177 177 (.slice r x y) (sA (o.next) g h) j) j λb d e _ f=>aM (CG (eY a n c p v) w) z [(.slice a n c),nA,(.func (.func 213) ⟨[]⟩ ⟨[(.pointer p)]⟩),(.slice b d e),(.int .u64 k),(.int .i64 v),(.int .i64 (wrap .i64 ((i:Int)+1)))] f)) (au (decide (((i:Int):Int)<0)) (iP 177 nA (iA i) λs=>xI .u64 (aj SS.P 150 h (.pointer (some s))) λq=>FW SS 213 [(.int .u64 0),(.int .u64 q),(.int .u64 cy),(.pointer p)] h λm o=>∃l:Int,∃k:Int,m=(.tuple ⟨[(.int .u64 l),(.int .u64 k)]⟩)/\xR (aI SS.P 177 1 [(0,(.int .u64 l))]) o λ_ g h j=>xE (bM SS.P 177 177 (.slice r x y) (sA (o.next) g h) j) j λb d e _ f=>aM (CG (eY a n c p v) w) z [(.slice a n c),nA,(.func (.func 213) ⟨[]⟩ ⟨[(.pointer p)]⟩),(.slice b d e),(.int .u64 k),(.int .i64 v),(.int .i64 (wrap .i64 ((i:Int)+1)))] f) (FW SS 213 [(.int .u64 0),(.int .u64 0),(.int .u64 cy),(.pointer p)] h λm o=>∃l:Int,∃k:Int,m=(.tuple ⟨[(.int .u64 l),(.int .u64 k)]⟩)/\xR (aI SS.P 177 1 [(0,(.int .u64 l))]) o λ_ g h j=>xE (bM SS.P 177 177 (.slice r x y) (sA (o.next) g h) j) j λb d e _ f=>aM (CG (eY a n c p v) w) z [(.slice a n c),nA,(.func (.func 213) ⟨[]⟩ ⟨[(.pointer p)]⟩),(.slice b d e),(.int .u64 k),(.int .i64 v),(.int .i64 (wrap .i64 ((i:Int)+1)))] f))) (FW SS 174 [(.slice r x y)] h λd e=>yL d λa b c=>Q (.slice a b c) e))(z:Nat){i:Nat}{cy:Int}{r:OA}{x y:Nat}{h:ae}(A:w z i cy r x y h):LL SS iL [1,1,1,0,1,0,0] (eY a n c p v i cy r x y) h (KK SS iL [1,1,1,0,1,0] [] (EE SS iL Q)):=
 GU (eY a n c p v) w (λz i cy r x y B h A=>ai (step z i cy r x y B h A)) z A
noncomputable def KG:FD:=cP Tryz.f202 []
theorem Ic(a:OA)(n c:Nat)(k:Int)(h:ae)(Q:VH)(g:xN (eE SS.P 150 (.int .u64 k)) h λ_ f=>FW SS 193 [(.slice a n c),nA,(.func (.func 213) ⟨[]⟩ ⟨[(pA (h.next))]⟩)] f λd e=>yL d λa b c=>Q (.slice a b c) e):FW SS 202 [(.slice a n c),(.int .u64 k)] h Q:=cV KG Tryz.func202 (ai g)
def uv(d:Nat):Value:= .int .u64 (d:Int)
theorem BI:SS.P.underlying 177=some (.slice 150):=by kernel_rfl
theorem Pm:SS.P.underlying 150=some (.int .u64):=by kernel_rfl
theorem E8:aG SS.P 150=some 1:=by kernel_rfl
theorem Ov:Go.Ab.isAgg SS.P 150=false:=by kernel_rfl
noncomputable def VO:TypeInfo:=(fh SS.P 150).getD default
theorem K1:fh SS.P 150=some VO:=by kernel_rfl
theorem Ef:VO.size=1:=by kernel_rfl
theorem BA:VO.bytes=8:=by kernel_rfl
theorem tk(z:Int):aI SS.P 177 1 [(0,.int .u64 z)]=some (.cells [.int .u64 z] 150 1 true,mY 1 1):=by kernel_rfl
theorem mA(d:Wf g)(e:Ok g h){v:Value}{a:List Value}(o:eC g h 150 v a)(z:Int)(f:a.length<=100000):
  ∃(b:Option Addr)(n c:Nat)(u:dV),bM SS.P 177 177 v (.slice (some ⟨h.next,0,none⟩) 1 1) (h.push (.cells [.int .u64 z] 150 1 true))=some (.slice b n c,u)/\n=a.length+1/\eC g (u.app (h.push (.cells [.int .u64 z] 150 1 true))) 150 (.slice b n c) (a++[.int .u64 z])/\Ok g (u.app (h.push (.cells [.int .u64 z] 150 1 true))):=
 eC.snoc BI K1 Ef d e o rfl (by rw[BA];omega) (by omega)
theorem UW(l:List Nat)(i:Nat)(h:i<l.length):(l.map uv).getD i undef = .int .u64 (l.getD i 0:Nat):=by
 simp[gD,List.getElem?_map,gE h,uv]
theorem Gb(r:Rd h 150 v (x.map uv)){i:Int}(d:0<=i)(b:i<x.length):
  ∃p:Addr,aB SS.P 177 v (.int .i64 i)=some (.pointer (some p))/\aj SS.P 150 h (.pointer (some p))=some (.int .u64 (x.getD i.toNat 0:Nat)):=by
 obtain⟨p,c,a⟩:=r.at_ BI E8 Pm Ov (k:= .i64) d (by rw[lM];exact b);rw[UW x _ (by omega)]at a;exact⟨p,c,a⟩
theorem sx{c:Nat}(o:eC g h 150 (.slice a n c) (x.map uv))(D:x.length<=100000):
  FW SS 174 [.slice a n c] h (λv u=>∃k f e,v = .slice k f e/\eC g h 150 (.slice k f e) ((dY x).map uv)/\u=h):=by
 have A:n=x.length:=by have:=o.len;rwa[lM]at this
 have L:=pD a n c (λb r m d J=>m<=x.length/\b=m/\eC g h 150 (.slice r m d) ((x.take m).map uv)/\dY x=dY (x.take m)/\J=h) (λv u=>∃k f e,v = .slice k f e/\eC g h 150 (.slice k f e) ((dY x).map uv)/\u=h) (by
  intro b r m d;intros;rename_i J I;obtain⟨K,rfl,t,w,rfl⟩:=I;have H:wrap .i64 ((b:Int)-1)=(b:Int)-1:=aD (by omega) (by omega);rw[H];have s:b≠0->x.take b=x.take (b-1)++[x.getD (b-1) 0]:=λs=>by
   obtain⟨j,rfl⟩:∃j,b=j+1:=⟨b-1,by omega⟩
   rw[List.take_succ_eq_append_getElem (by omega),Nat.add_sub_cancel,gD,gE (by omega)];rfl
  refine aa (λq=>?_) (λq=>?_)
  ·have q:=dT q;obtain⟨p,F,C⟩:=Gb t.rd (i:=(b:Int)-1) (by omega) (by rw[length_take];omega);have E:(x.take b).getD ((b:Int)-1).toNat 0=x.getD (b-1) 0:=by
    rw[show((b:Int)-1).toNat=b-1 by omega,gD,List.getElem?_take,if_pos (by omega),gD]
   rw[E]at C;refine⟨p,F,_,C,aa (λl=>?_) (λl=>?_)⟩
   ·have l:((x.getD (b-1) 0:Nat):Int)=0:=by simpa using l
    have l:x.getD (b-1) 0=0:=by omega
    obtain⟨k,f,e,G,y⟩:=t.upto BI E8 (z:=b-1) (by rw[lM,length_take];omega) (by rw[lM,length_take];omega);rw[show((b:Int)-1)=((b-1:Nat):Int) by omega];have B:f=b-1:=by have:=y.len;rw[length_take,lM,length_take]at this;omega
    subst B;refine⟨k,_,e,G,Kl (b-1) (by omega) ⟨by omega,rfl,?_,?_,rfl⟩⟩
    ·rw[<-List.map_take,List.take_take,Nat.min_eq_left (by omega)]at y;exact y
    ·rw[w,s (by omega),l,jl]
   ·have l:¬((x.getD (b-1) 0:Nat):Int)=0:=by simpa using l
    refine⟨r,b,d,rfl,?_,rfl⟩;rw[w,s (by omega),ka _ (by omega),<-s (by omega)];exact t
  ·have q:=dF q;obtain rfl:b=0:=by omega
   refine⟨r,0,d,rfl,?_,rfl⟩;rw[w];exact t)
 exact DY a n c h _ (L n ⟨by omega,rfl,by rw[show x.take n=x by rw[A,List.take_length]];exact o,by rw[show x.take n=x by rw[A,List.take_length]],rfl⟩)
theorem FP{l:List UInt8}(h:i<l.length):Num.val (l.take (i+1))=10*Num.val (l.take i)+jB (l.getD i 0):=tj (MP h)
theorem Sg(l:List UInt8){h:ae}{b:Nat}(c:b<=l.length):bK SS.P 9 (strOf l) none (some (.int .i64 (b:Int))) none h=some (strOf (l.take b)):=oR (a:=0) Z4 l rfl rfl (by omega) c
theorem JR(b:n=s.length-9)(a:0<s.length):Num.val s=Num.val (s.drop n)+10^(s.length-n)*Num.val (s.take n):=by
 have:=kd (s.take n) (s.drop n);rw[List.take_append_drop,length_drop,Nat.mul_comm]at this;omega
theorem sw(l:List UInt8)(hd:l.all bV=true)(k:l.length<=10000)(h:ae)(w:Wf h):FW SS 172 [strOf l] h (ji h 150 ((aY 1000000000 (Num.val l)).map uv)):=by
 have Y:=uj l (λA s r o t g=>A=s.length/\s.all bV=true/\s.length<=10000/\Ok h g/\∃a:List Nat,(∀d∈a,d<1000000000)/\a.length+s.length<=10000/\eC h g 150 (.slice r o t) (a.map uv)/\Num.val l=Num.bv 1000000000 a+1000000000^a.length*Num.val s) (ji h 150 ((aY 1000000000 (Num.val l)).map uv)) (by
  intro A s r o t;intros;rename_i g X;obtain⟨rfl,p,x2,Q,a,C,x0,O,I⟩:=X;refine aa (λz=>?_) (λz=>?_)
  ·have z:=dT z;have U:wrap .i64 ((s.length:Int)-9)=(s.length:Int)-9:=aD (by omega) (by omega);rw[U];have E:(if(s.length:Int)-9>0 then(s.length:Int)-9 else 0)=((s.length-9:Nat):Int):=by split<;>omega
   refine⟨_,uh _ _ _,?_⟩;rw[E];have T:=uk l (λA s r o t g=>A=s.length/\s.all bV=true/\s.length<=10000/\Ok h g/\∃a:List Nat,(∀d∈a,d<1000000000)/\a.length+s.length<=10000/\eC h g 150 (.slice r o t) (a.map uv)/\Num.val l=Num.bv 1000000000 a+1000000000^a.length*Num.val s) s.length s r o t ((s.length-9:Nat):Int)
    (λq i v B=>∃j:Nat,i=(s.length-9:Nat)+(j:Int)/\s.length-9+j<=s.length/\q=s.length-(s.length-9+j)/\v=(Num.val ((s.drop (s.length-9)).take j):Nat)/\B=g) (ji h 150 ((aY 1000000000 (Num.val l)).map uv)) (by
    intro q i v;intros;rename_i B P;obtain⟨j,rfl,hj,x3,rfl,rfl⟩:=P;have D:(s.drop (s.length-9)).all bV=true:=by
     rw[all_eq_true]at p⊢;exact λx c=>p x (List.mem_of_mem_drop c)
    have F:=yh (l:=(s.drop (s.length-9)).take j) (by
     rw[all_eq_true]at D⊢;exact λx c=>D x (List.mem_of_mem_take c))
    have f:Num.val ((s.drop (s.length-9)).take j)<1000000000:=by
     refine Nat.lt_of_lt_of_le F (Nat.le_trans (Nat.pow_le_pow_right (by omega) (show _<=9 by rw[length_take,length_drop];omega)) (by decide))
    refine aa (λe=>?_) (λe=>?_)
    ·have e:=dT e;have H:s.length-9+j<s.length:=by omega
     have y:=Da p H;have x4:=lN.1 y;have x1:=rJ y;refine⟨_,B2 (h:=B) s (by omega) e,?_⟩;have G:(((s.length-9:Nat):Int)+(j:Int)).toNat=s.length-9+j:=by omega
     rw[G];have R:wrap .u8 ((((s.getD (s.length-9+j) 0).toNat:Nat):Int)-48)=(jB (s.getD (s.length-9+j) 0):Nat):=by
      rw[ta (by omega) (by omega)];unfold jB;omega
     have e2:(s.drop (s.length-9)).getD j 0=s.getD (s.length-9+j) 0:=by
      rw[gD,List.getElem?_drop,gD]
     have N:=FP (l:=s.drop (s.length-9)) (i:=j) (by rw[length_drop];omega);rw[e2]at N;dsimp only;rw[R,hK (n:=((jB (s.getD (s.length-9+j) 0):Nat):Int)) (by omega) (by omega),hK (n:=10*((Num.val ((s.drop (s.length-9)).take j):Nat):Int)) (by omega) (by omega),hK (by omega) (by omega),aD (n:=((s.length-9:Nat):Int)+(j:Int)+1) (by omega) (by omega)];exact hW (q-1) (by omega) ⟨j+1,by omega,by omega,by omega,by rw[N];omega,rfl⟩
    ·have e:=dF e;have K:(s.drop (s.length-9)).take j=s.drop (s.length-9):=take_of_length_le (by rw[length_drop];omega);rw[K]at f⊢;refine⟨_,_,_,tk _,?_⟩;obtain⟨b,m,d,u,V,g7,S,g9⟩:=mA w Q O ((Num.val (s.drop (s.length-9)):Nat):Int) (by rw[lM];omega);refine⟨b,m,d,u,V,?_⟩;refine⟨_,Sg s (show s.length-9<=s.length by omega),?_⟩;refine Ur (s.take (s.length-9)).length (by rw[length_take];omega) ⟨rfl,?_,by rw[length_take];omega,g9,a++[Num.val (s.drop (s.length-9))],?_,?_,?_,?_⟩
     ·rw[all_eq_true]at p⊢;exact λx c=>p x (List.mem_of_mem_take c)
     ·intro x c;rcases mem_append.1 c with c|c
      ·exact C x c
      ·rw[mem_singleton.1 c];exact f
     ·rw[List.length_append,length_take];simp;omega
     ·rw[map_append];exact S
     ·rw[qS,List.length_append,I,JR (s:=s) rfl (by omega),List.length_singleton];rcases lt_or_ge s.length 10 with W|W
      ·rw[show s.length-9=0 by omega,take_zero,ke];simp
      ·rw[show s.length-(s.length-9)=9 by omega,show(10:Nat)^9=1000000000 from rfl,Nat.pow_succ,Nat.mul_add,Nat.mul_assoc];omega)
   exact T _ ⟨0,by omega,by omega,rfl,by simp[ke],rfl⟩
  ·have z:=dF z;obtain rfl:s=[]:=List.eq_nil_of_length_eq_zero (by omega);refine(sx O (by omega)).mono ?_;rintro _ B ⟨M,L,J,rfl,Z,rfl⟩;refine⟨M,L,J,rfl,M,L,J,rfl,?_,Q⟩;rw[I,ke,Nat.mul_zero,Nat.add_zero,<-lz (by omega) C];exact Z)
 exact H9 l h _ (Y l.length ⟨rfl,hd,k,Ok.refl w,[],by simp,by simpa using k,.inl ⟨rfl,rfl⟩,by simp[Num.bv]⟩)
variable{j:Nat}{P:Program}
theorem OV(x:Int)(h:ae):FW SS 206 [.int .u64 x] h (λv a=>v = .bool false/\a=h):=Zg x h _ ⟨by simp,rfl⟩
theorem OU(x:Int)(h:ae):FW SS 165 [.int .i64 x] h (λv a=>v = .bool false/\a=h):=Zf x h _ ⟨by simp,rfl⟩
theorem YC(m n:Nat)(h:ae):FW SS 196 [.int .u64 (m:Int),.int .u64 (n:Int)] h (λv c=>v = .int .i64 (eO m n)/\c=h):=by
 refine YA _ _ h _ ((OV _ h).mono ?_);rintro _ _ ⟨rfl,rfl⟩;refine⟨_,rfl,(OV _ _).mono ?_⟩;rintro _ _ ⟨rfl,rfl⟩;refine⟨_,rfl,aa (λe=>by cases e) (λ_=>aa (λe=>by cases e) (λ_=>aa (λa=>?_) (λa=>aa (λb=>?_) (λb=>?_))))⟩
 ·exact⟨by rw[lK (by have:=dT a;omega)],rfl⟩
 ·exact⟨by rw[lJ (by have:=dT b;omega)],rfl⟩
 ·have a:=dF a;have b:=dF b;exact⟨by rw[show m=n by omega,qT],rfl⟩
theorem Yz(m n:Nat)(h:ae):FW SS 195 [.int .i64 (m:Int),.int .i64 (n:Int)] h (λv c=>v = .int .i64 (eO m n)/\c=h):=by
 refine Yy _ _ h _ ((OU _ h).mono ?_);rintro _ _ ⟨rfl,rfl⟩;refine⟨_,rfl,(OU _ _).mono ?_⟩;rintro _ _ ⟨rfl,rfl⟩;refine⟨_,rfl,aa (λe=>by cases e) (λ_=>aa (λe=>by cases e) (λ_=>aa (λa=>?_) (λa=>aa (λb=>?_) (λb=>?_))))⟩
 ·exact⟨by rw[lK (by have:=dT a;omega)],rfl⟩
 ·exact⟨by rw[lJ (by have:=dT b;omega)],rfl⟩
 ·have a:=dF a;have b:=dF b;exact⟨by rw[show m=n by omega,qT],rfl⟩
abbrev BB:Nat:=1000000000
abbrev bl(n:Nat):List Value:=(aY BB n).map uv
theorem gX:1<BB:=by decide
theorem qI{b:Option Addr}{c:Nat}{x:Nat}(E:Rd h 150 (.slice a n c) (bl x))(D:Rd h 150 (.slice b m k) (bl j))(I:(aY BB x).length<=10000)(w:Wf h):
  FW SS 186 [.slice a n c,.slice b m k] h (λv u=>v = .int .i64 (eO x j)/\Ok h u):=by
 have O:n=(aY BB x).length:=by have:=E.len;rwa[lM]at this
 have P:m=(aY BB j).length:=by have:=D.len;rwa[lM]at this
 have L:=λ(C:(aY BB x).length=(aY BB j).length)=>tz a n c b m k (λs i g=>i<=n/\s=n-i/\(aY BB x).drop (n-i)=(aY BB j).drop (n-i)/\Ok h g) (λv u=>v = .int .i64 (eO x j)/\Ok h u) (by
  intro s i;intros;rename_i g M;obtain⟨f,o,t,G⟩:=M;have B:wrap .i64 ((n:Int)-1)=(n:Int)-1:=aD (by omega) (by omega);have z:wrap .i64 ((n:Int)-1-(i:Int))=(n:Int)-1-(i:Int):=aD (by omega) (by omega);have A:wrap .i64 ((i:Int)+1)=((i+1:Nat):Int):=by rw[aD (by omega) (by omega)];omega
  rw[B,z,A];have l:=G.room 18;refine aa (λr=>?_) (λr=>?_)
  ·have r:=dT r;have N:((n:Int)-1-(i:Int)).toNat=n-1-i:=by omega
   obtain⟨p,J,H⟩:=Gb (E.ok l) (i:=(n:Int)-1-(i:Int)) (by omega) (by omega);obtain⟨q,K,F⟩:=Gb (D.ok l) (i:=(n:Int)-1-(i:Int)) (by omega) (by omega);rw[N]at H F;refine⟨p,J,_,H,q,K,_,F,(YC _ _ _).mono ?_⟩;rintro _ _ ⟨rfl,rfl⟩;have y:(aY BB x).drop (n-1-i+1)=(aY BB j).drop (n-1-i+1):=by rw[show n-1-i+1=n-i by omega];exact t
   refine⟨_,rfl,aa (λd=>?_) (λd=>?_)⟩
   ·refine⟨?_,l⟩;have d:eO ((aY BB x).getD (n-1-i) 0) ((aY BB j).getD (n-1-i) 0)≠0:=by simpa using d
    rcases Nat.lt_trichotomy ((aY BB x).getD (n-1-i) 0) ((aY BB j).getD (n-1-i) 0)with e|e|e
    ·have:=tF gX (dx gX x) C (by omega) y e;rw[cw gX,cw gX]at this;rw[lK e,lK this]
    ·rw[e,qT]at d;exact absurd rfl d
    ·have:=tF gX (dx gX j) C.symm (by omega) y.symm e;rw[cw gX,cw gX]at this;rw[lJ e,lJ this]
   ·have d:eO ((aY BB x).getD (n-1-i) 0) ((aY BB j).getD (n-1-i) 0)=0:=by simpa using d
    have e:(aY BB x).getD (n-1-i) 0=(aY BB j).getD (n-1-i) 0:=by
     unfold eO at d;split at d
     ·cases d
     ·split at d
      ·assumption
      ·cases d
    refine cm (s-1) (by omega) ⟨by omega,by omega,?_,l⟩;rw[show n-(i+1)=n-1-i by omega,drop_eq_getElem_cons (show n-1-i<(aY BB x).length by omega),drop_eq_getElem_cons (show n-1-i<(aY BB j).length by omega),y];congr 1;rw[gD,gE (by omega),gD,gE (by omega)]at e;exact e
  ·have r:=dF r;rw[show n-i=0 by omega,drop_zero,drop_zero]at t;have:x=j:=by rw[<-cw gX x,t,cw gX]
   exact⟨by rw[this,qT],G⟩)
 refine FC a n c b m k h _ (aa (λf=>(Yz _ _ h).mono ?_) (λf=>?_))
 ·rintro _ _ ⟨rfl,rfl⟩;have f:=M9 f;refine⟨_,rfl,?_,Ok.refl w⟩;rcases Nat.lt_trichotomy n m with o|o|o
  ·rw[lK o,lK (l7 gX (by omega))]
  ·exact absurd o f
  ·rw[lJ o,lJ (l7 gX (by omega))]
 ·have f:=MG f;refine L (by omega) n (i:=0) ⟨by omega,by omega,?_,Ok.refl w⟩;rw[sub_zero,List.drop_of_length_le (by omega),List.drop_of_length_le (by omega)]
theorem Kw{t:TypeId}{p:Value}(o:Ok h g)(a:aj P t h p=some v):aj P t g p=some v:=by
 unfold aj at a⊢;split at a
 ·next c=>
  split at a
  ·next cs _ _ _ b=>rw[o.ext _ _ b];exact a
  ·cases a
 ·cases a
theorem NM{p:Option Addr}(g:aj SS.P 150 h (.pointer p)=some (.int .u64 (k:Int)))(x y z:Nat)(c:x<BB)(e:k<=BB)(l:z<BB):
  FW SS 213 [.int .u64 (x:Int),.int .u64 (y:Int),.int .u64 (z:Int),.pointer p] h (λv d=>v = .tuple ⟨[uv (dc BB k x y z).1,uv (dc BB k x y z).2]⟩/\d=h):=by
 have i:BB=1000000000:=rfl;have j:x*k<=1000000000000000000:=Nat.le_trans (Nat.mul_le_mul (Nat.le_of_lt c) e) (by decide);have a:wrap .u64 ((x:Int)*(k:Int))=((x*k:Nat):Int):=by rw[<-Int.natCast_mul];exact hK (by omega) (by omega)
 have f:wrap .u64 (((x*k:Nat):Int)+(z:Int))=((x*k+z:Nat):Int):=by rw[<-Int.natCast_add];exact hK (by omega) (by omega)
 refine NL _ _ _ p h _ ⟨_,g,?_⟩;dsimp only;rw[a,f];refine⟨_,hI (b:=BB) (by omega) (by decide),_,qi (b:=BB) (by omega) (by omega) (by decide),?_,rfl⟩;unfold uv dc;rw[Int.natCast_emod,Int.natCast_ediv]
theorem Fu{c:Nat}{p:Option Addr}(S:Rd h 150 (.slice a n c) (x.map uv))(C:∀d∈x,d<BB)(x0:x.length<=10000)(hp:aj SS.P 150 h (.pointer p)=some (.int .u64 (k:Int)))(A:0<k)(E:k<=BB)(w:Wf h):
  FW SS 193 [.slice a n c,.slice none 0 0,.func (.func 213) ⟨[]⟩ ⟨[.pointer p]⟩] h (ji h 150 (bl (Num.bv BB x*k))):=by
 have hn:n=x.length:=by have:=S.len;rwa[lM]at this
 have Z:BB=1000000000:=rfl;have hF:∀p q c,c<=BB-1->p<BB->(dc BB k p q c).2<=BB-1:=λp q c hc hp=>by
  unfold dc;dsimp only;have h1:p*k<=999999999*1000000000:=Nat.mul_le_mul (by omega) E;have:(p*k+c)/BB<BB:=Nat.div_lt_of_lt_mul (by rw[Z];omega);omega
 have T:∀j,eV (dc BB k) x [] 0 0 j<=BB-1:=by
  intro j
  induction j with
  |zero=>exact Nat.zero_le _
  |succ j ih=>exact hF _ _ _ ih (ba (by decide) C _)
 have W:dY (bm (dc BB k) x [] 0 (n+1) 0)=aY BB (Num.bv BB x*k):=by
  rw[lz gX (jC (λp q c=>mod_lt _ (by decide)) x [] (n+1) 0 0),Me gX E A C (n+1) 0 0 (by omega) A (by omega)];rw[drop_zero,Nat.add_zero]
 have L:=tx a n c p ((n:Int)+1) (λz i cy r N P g=>i<=n+1/\z=n+1-i/\cy=(eV (dc BB k) x [] 0 0 i:Nat)/\eC h g 150 (.slice r N P) ((bm (dc BB k) x [] 0 i 0).map uv)/\Ok h g) (ji h 150 (bl (Num.bv BB x*k))) (by
  intro z i cy r N P;intros;rename_i g hi;obtain⟨h1,h2,rfl,F,v⟩:=hi;have K:wrap .i64 ((i:Int)+1)=((i+1:Nat):Int):=by rw[aD (by omega) (by omega)];omega
  rw[K];have l:(bm (dc BB k) x [] 0 i 0).length=i:=fk _ _ _ _ _ _;have f:=iB (dc BB k) x [] i 0 0;rw[Nat.zero_add]at f;have o:eV (dc BB k) x [] 0 0 (i+1)=(dc BB k (x.getD i 0) (([]:List Nat).getD i 0) (eV (dc BB k) x [] 0 0 i)).2:=by
   show(dc BB k (x.getD (0+i) 0) (([]:List Nat).getD (0+i) 0) _).2=_;rw[Nat.zero_add]
  have x1:=T i;have X:=ba (b:=BB) (by decide) C i;have O:=Kw v hp;have U:=NM O (x.getD i 0) (([]:List Nat).getD i 0) (eV (dc BB k) x [] 0 0 i) X E (by omega);have M:([]:List Nat).getD i 0=0:=by simp
  refine aa (λy=>?_) (λy=>?_)
  ·have y:=dT y;refine aa (λt=>?_) (λt=>?_)
   ·have t:=dT t;obtain⟨q,J,g3⟩:=Gb (S.ok v) (i:=(i:Int)) (by omega) (by omega);rw[Int.toNat_natCast]at g3;refine⟨q,J,_,g3,aa (λs=>?_) (λs=>?_)⟩
    ·have:=dT s;omega
    ·refine(show FW SS 213 [.int .u64 ((x.getD i 0:Nat):Int),.int .u64 ((([]:List Nat).getD i 0:Nat):Int),.int .u64 ((eV (dc BB k) x [] 0 0 i:Nat):Int),.pointer p] g _ from U).mono ?_ |> (λe=>by rw[M]at e;exact e)
     rintro _ _ ⟨rfl,rfl⟩;refine⟨_,_,rfl,_,_,_,tk _,?_⟩;obtain⟨b,m,d,u,D,g7,B,G⟩:=mA w v F ((dc BB k (x.getD i 0) (([]:List Nat).getD i 0) (eV (dc BB k) x [] 0 0 i)).1:Nat) (by rw[lM,l];omega);refine⟨b,m,d,u,D,pv (z-1) (by omega) ⟨by omega,by omega,by rw[o],?_,G⟩⟩;rw[f,map_append];exact B
   ·have t:=dF t;have V:x.getD i 0=0:=by rw[gD,List.getElem?_eq_none (by omega)];rfl
    refine aa (λs=>?_) (λs=>?_)
    ·have:=dT s;omega
    ·refine(show FW SS 213 [.int .u64 ((x.getD i 0:Nat):Int),.int .u64 ((([]:List Nat).getD i 0:Nat):Int),.int .u64 ((eV (dc BB k) x [] 0 0 i:Nat):Int),.pointer p] g _ from U).mono ?_ |> (λe=>by rw[M,V]at e;exact e)
     rintro _ _ ⟨rfl,rfl⟩;refine⟨_,_,rfl,_,_,_,tk _,?_⟩;obtain⟨b,m,d,u,D,g7,B,G⟩:=mA w v F ((dc BB k (x.getD i 0) (([]:List Nat).getD i 0) (eV (dc BB k) x [] 0 0 i)).1:Nat) (by rw[lM,l];omega);refine⟨b,m,d,u,D,pv (z-1) (by omega) ⟨by omega,by omega,by rw[o],?_,G⟩⟩;rw[f,map_append];exact B
  ·have y:=dF y;obtain rfl:i=n+1:=by omega
   refine(sx F (by rw[l];omega)).mono ?_;rintro _ J ⟨R,Q,I,rfl,Y,rfl⟩;rw[W]at Y;exact⟨R,Q,I,rfl,R,Q,I,rfl,Y,v⟩)
 refine Ft a n c p h _ ⟨_,uh _ _ _,?_⟩;have H:(if(0:Int)>(n:Int)then(0:Int)else(n:Int))=(n:Int):=if_neg (by omega);have hw:wrap .i64 ((n:Int)+1)=(n:Int)+1:=aD (by omega) (by omega);dsimp only;rw[H,hw];exact L (n+1) (i:=0) ⟨by omega,by omega,rfl,.inl ⟨rfl,rfl⟩,Ok.refl w⟩
noncomputable def bG:FD:=cP Tryz.f203 [([1,1,1,1,0,0,0],[0,1,5,7,8]),([1,1,1,1,1,1,0,1,0,0],[0,1,5,7,9,10,87,88]),([1,1,1,1,1,1,1,1,1,0,1,0,0],[0,1,5,7,10,128,129])]
abbrev fb(a:OA)(n c:Nat)(b:OA)(m d:Nat)(q e:Int):LV:=[(.slice a n c),(.slice b m d),(iA m),(.int .u64 q),(.int .u64 e)]
abbrev dD(a:OA)(n c:Nat)(b:OA)(m d:Nat)(q e:Int)(i:Nat)(f cy:Int):LV:=[(.slice a n c),(.slice b m d),(iA m),(.int .u64 q),(.int .u64 f),(.int .u64 cy),(.int .i64 e),(iA i)]
abbrev ib(a:OA)(n c:Nat)(b:OA)(m d:Nat)(q e:Int)(i:Nat)(cy:Int):LV:=[(.slice a n c),(.slice b m d),(iA m),(.int .u64 q),(.int .u64 cy),(.int .i64 e),(iA i)]
theorem KC(a:OA)(n c:Nat)(b:OA)(m d:Nat)(h:ae)(Q:VH)(r:iP 177 (.slice a n c) (iA m) λq=>xI .u64 (aj SS.P 150 (room h 12) (.pointer (some q))) λp=>iP 177 (.slice a n c) (.int .i64 (wrap .i64 ((m:Int)-1))) λo=>xI .u64 (aj SS.P 150 (room h 12) (.pointer (some o))) λl=>iP 177 (.slice b m d) (.int .i64 (wrap .i64 ((m:Int)-1))) λk=>xI .u64 (aj SS.P 150 (room (room h 12) 16) (.pointer (some k))) λj=>xI .u64 (aA SS.P .quo 150 (.int .u64 (wrap .u64 (wrap .u64 (p*1000000000)+l))) (.int .u64 j)) λi=>iP 177 (.slice b m d) (.int .i64 (wrap .i64 ((m:Int)-1))) λg=>xI .u64 (aj SS.P 150 (room (room h 12) 16) (.pointer (some g))) λf=>xI .u64 (aA SS.P .rem 150 (.int .u64 (wrap .u64 (wrap .u64 (p*1000000000)+l))) (.int .u64 f)) λe=>LL SS bG [1,1,1,1,0,0,0] (fb a n c b m d i e) (room (room h 12) 16) (KK SS bG [1,1,1,1,0,0] [] (EE SS bG Q))):FW SS 203 [(.slice a n c),(.slice b m d)] h Q:=cV bG Tryz.func203 (ai r)
theorem vT(a:OA)(n c:Nat)(b:OA)(m d:Nat)  (o:Nat->Int->Int->ae->Prop) (Q:VH) (step:∀(p:Nat)(q l:Int)(s:Nat->Value)(h:ae),o p q l h->au (decide ((q:Int)>=1000000000)) (iP 177 (.slice b m d) (.int .i64 (wrap .i64 ((m:Int)-1))) λf=>xI .u64 (aj SS.P 150 (room h 28) (.pointer (some f))) λe=>au (decide ((wrap .u64 (l+e):Int)>=1000000000)) (au (decide ((wrap .u64 (q-1):Int)<1000000000)) (LL SS bG [1,1,1,1,1,1,0,1,0,0] (dD a n c b m d (wrap .u64 (q-1)) (wrap .i64 ((m:Int)+1)) 0 0 0) (room h 28) (KK SS bG [1,1,1,1,1,1,0,1,0] [] (EE SS bG Q))) (aM (pU (fb a n c b m d) o) p [(.slice a n c),(.slice b m d),(iA m),(.int .u64 (wrap .u64 (q-1))),(.int .u64 (wrap .u64 (l+e)))] (room h 28))) (aM (pU (fb a n c b m d) o) p [(.slice a n c),(.slice b m d),(iA m),(.int .u64 (wrap .u64 (q-1))),(.int .u64 (wrap .u64 (l+e)))] (room h 28))) (au (decide (((m:Int):Int)>1)) (au (decide ((l:Int)<1000000000)) (iP 177 (.slice b m d) (.int .i64 (wrap .i64 ((m:Int)-2))) λk=>xI .u64 (aj SS.P 150 (room h 28) (.pointer (some k))) λj=>iP 177 (.slice a n c) (.int .i64 (wrap .i64 ((m:Int)-2))) λi=>xI .u64 (aj SS.P 150 (room h 28) (.pointer (some i))) λg=>au (decide ((wrap .u64 (q*j):Int)>wrap .u64 (wrap .u64 (l*1000000000)+g))) (iP 177 (.slice b m d) (.int .i64 (wrap .i64 ((m:Int)-1))) λf=>xI .u64 (aj SS.P 150 (room h 28) (.pointer (some f))) λe=>au (decide ((wrap .u64 (l+e):Int)>=1000000000)) (au (decide ((wrap .u64 (q-1):Int)<1000000000)) (LL SS bG [1,1,1,1,1,1,0,1,0,0] (dD a n c b m d (wrap .u64 (q-1)) (wrap .i64 ((m:Int)+1)) 0 0 0) (room h 28) (KK SS bG [1,1,1,1,1,1,0,1,0] [] (EE SS bG Q))) (aM (pU (fb a n c b m d) o) p [(.slice a n c),(.slice b m d),(iA m),(.int .u64 (wrap .u64 (q-1))),(.int .u64 (wrap .u64 (l+e)))] (room h 28))) (aM (pU (fb a n c b m d) o) p [(.slice a n c),(.slice b m d),(iA m),(.int .u64 (wrap .u64 (q-1))),(.int .u64 (wrap .u64 (l+e)))] (room h 28))) (LL SS bG [1,1,1,1,1,1,0,1,0,0] (dD a n c b m d q (wrap .i64 ((m:Int)+1)) 0 0 0) (room h 28) (KK SS bG [1,1,1,1,1,1,0,1,0] [] (EE SS bG Q)))) (LL SS bG [1,1,1,1,1,1,0,1,0,0] (dD a n c b m d q (wrap .i64 ((m:Int)+1)) 0 0 0) (room h 28) (KK SS bG [1,1,1,1,1,1,0,1,0] [] (EE SS bG Q)))) (LL SS bG [1,1,1,1,1,1,0,1,0,0] (dD a n c b m d q (wrap .i64 ((m:Int)+1)) 0 0 0) (room h 28) (KK SS bG [1,1,1,1,1,1,0,1,0] [] (EE SS bG Q))))) (p:Nat) {q l:Int} {h:ae} (r:o p q l h):LL SS bG [1,1,1,1,0,0,0] (fb a n c b m d q l) h (KK SS bG [1,1,1,1,0,0] [] (EE SS bG Q)):=
 mw (fb a n c b m d) o (λp q l s h r=>ai (step p q l s h r)) p r
theorem vV(a:OA)(n c:Nat)(b:OA)(m d:Nat)(q t:Int)(v:Nat->Nat->Int->Int->ae->Prop)(Q:VH)(step:∀(w:Nat) (i:Nat) (u cy:Int) (y:Nat->Value) (h:ae),v w i u cy h->au (decide (((i:Int):Int)<t)) (au (decide (((i:Int):Int)<(m:Int))) (iP 177 (.slice b m d) (iA i) λs=>xI .u64 (aj SS.P 150 h (.pointer (some s))) λr=>iP 177 (.slice a n c) (iA i) λp=>xI .u64 (aj SS.P 150 h (.pointer (some p))) λo=>xI .u64 (aA SS.P .rem 150 (.int .u64 (wrap .u64 (cy+wrap .u64 (q*r)))) (.int .u64 1000000000)) λl=>xI .u64 (aA SS.P .rem 150 (.int .u64 (wrap .u64 (wrap .u64 (wrap .u64 (o+1000000000)-l)-u))) (.int .u64 1000000000)) λk=>xI .u64 (aA SS.P .quo 150 (.int .u64 (wrap .u64 (wrap .u64 (wrap .u64 (o+1000000000)-l)-u))) (.int .u64 1000000000)) λj=>xI .u64 (aA SS.P .quo 150 (.int .u64 (wrap .u64 (cy+wrap .u64 (q*r)))) (.int .u64 1000000000)) λg=>iP 177 (.slice a n c) (iA i) λf=>xU (ah SS.P 150 (.pointer (some f)) (.int .u64 k) h) h λ_ e=>aM (LA3 (dD a n c b m d q t) v) w [(.slice a n c),(.slice b m d),(iA m),(.int .u64 q),(.int .u64 (wrap .u64 (1-j))),(.int .u64 g),(.int .i64 t),(.int .i64 (wrap .i64 ((i:Int)+1)))] e) (iP 177 (.slice a n c) (iA i) λp=>xI .u64 (aj SS.P 150 h (.pointer (some p))) λo=>xI .u64 (aA SS.P .rem 150 (.int .u64 cy) (.int .u64 1000000000)) λl=>xI .u64 (aA SS.P .rem 150 (.int .u64 (wrap .u64 (wrap .u64 (wrap .u64 (o+1000000000)-l)-u))) (.int .u64 1000000000)) λk=>xI .u64 (aA SS.P .quo 150 (.int .u64 (wrap .u64 (wrap .u64 (wrap .u64 (o+1000000000)-l)-u))) (.int .u64 1000000000)) λj=>xI .u64 (aA SS.P .quo 150 (.int .u64 cy) (.int .u64 1000000000)) λg=>iP 177 (.slice a n c) (iA i) λf=>xU (ah SS.P 150 (.pointer (some f)) (.int .u64 k) h) h λ_ e=>aM (LA3 (dD a n c b m d q t) v) w [(.slice a n c),(.slice b m d),(iA m),(.int .u64 q),(.int .u64 (wrap .u64 (1-j))),(.int .u64 g),(.int .i64 t),(.int .i64 (wrap .i64 ((i:Int)+1)))] e)) (au (((u:Int)==0)) (Q (.int .u64 q) h) (LL SS bG [1,1,1,1,1,1,1,1,1,0,1,0,0] (ib a n c b m d q (wrap .i64 ((m:Int)+1)) 0 0) h (KK SS bG [1,1,1,1,1,1,1,1,1,0,1,0] [] (EE SS bG Q)))))(w:Nat){i:Nat}{u cy:Int}{h:ae}(x:v w i u cy h):LL SS bG [1,1,1,1,1,1,0,1,0,0] (dD a n c b m d q t i u cy) h (KK SS bG [1,1,1,1,1,1,0,1,0] [] (EE SS bG Q)):=
 Wd (dD a n c b m d q t) v (λw i u cy y h x=>ai (step w i u cy y h x)) w x
theorem vW(a:OA)(n c:Nat)(b:OA)(m d:Nat)(q r:Int)(s:Nat->Nat->Int->ae->Prop)(Q:VH)(step:∀(t:Nat) (i:Nat) (cy:Int) (v:Nat->Value) (h:ae),s t i cy h->au (decide (((i:Int):Int)<r)) (iP 177 (.slice a n c) (iA i) λp=>xI .u64 (aj SS.P 150 h (.pointer (some p))) λo=>au (decide (((i:Int):Int)<(m:Int))) (iP 177 (.slice b m d) (iA i) λl=>xI .u64 (aj SS.P 150 h (.pointer (some l))) λk=>xI .u64 (aA SS.P .rem 150 (.int .u64 (wrap .u64 (wrap .u64 (o+cy)+k))) (.int .u64 1000000000)) λj=>xI .u64 (aA SS.P .quo 150 (.int .u64 (wrap .u64 (wrap .u64 (o+cy)+k))) (.int .u64 1000000000)) λg=>iP 177 (.slice a n c) (iA i) λf=>xU (ah SS.P 150 (.pointer (some f)) (.int .u64 j) h) h λ_ e=>aM (pU (ib a n c b m d q r) s) t [(.slice a n c),(.slice b m d),(iA m),(.int .u64 q),(.int .u64 g),(.int .i64 r),(.int .i64 (wrap .i64 ((i:Int)+1)))] e) (xI .u64 (aA SS.P .rem 150 (.int .u64 (wrap .u64 (o+cy))) (.int .u64 1000000000)) λj=>xI .u64 (aA SS.P .quo 150 (.int .u64 (wrap .u64 (o+cy))) (.int .u64 1000000000)) λg=>iP 177 (.slice a n c) (iA i) λf=>xU (ah SS.P 150 (.pointer (some f)) (.int .u64 j) h) h λ_ e=>aM (pU (ib a n c b m d q r) s) t [(.slice a n c),(.slice b m d),(iA m),(.int .u64 q),(.int .u64 g),(.int .i64 r),(.int .i64 (wrap .i64 ((i:Int)+1)))] e)) (Q (.int .u64 (wrap .u64 (q-1))) h))(t:Nat){i:Nat}{cy:Int}{h:ae}(u:s t i cy h):LL SS bG [1,1,1,1,1,1,1,1,1,0,1,0,0] (ib a n c b m d q r i cy) h (KK SS bG [1,1,1,1,1,1,1,1,1,0,1,0] [] (EE SS bG Q)):=
 mw (ib a n c b m d q r) s (λt i cy v h u=>ai (step t i cy v h u)) t u
noncomputable def cE:FD:=cP Tryz.f189 [([1,1,1,1,1,0,0,0],[0,1,6,7,8,9]),([1,1,1,1,1,1,1,0,1,0,0],[0,1,4,6,7,8,9,49,50]),([1,1,1,1,1,1,1,1,1,1,0,1,0,0],[4,5,7,12,74,75])]
abbrev jo(a:OA)(n c:Nat)(b:OA)(m d:Nat)(j:Int)(e:OA)(f h:Nat)(r:OA)(g i:Nat):LV:=[(.slice a n c),(.slice b m d),(iA m),(.int .u64 j),(.slice r g i),(.slice e f h)]
abbrev jq(a:OA)(n c:Nat)(b:OA)(m d:Nat)(p:Int)(g:OA)(q l:Nat)(r:OA)(j o:Nat)(e:OA)(h k:Nat)(f:Int)(i:Nat):LV:=[(.slice a n c),(.slice b m d),(.slice g q l),(iA m),(.int .u64 p),(.slice r j o),(.slice e h k),(.int .i64 f),(iA i)]
abbrev jr(e:Int)(g:OA)(f c:Nat)(r:OA)(b d:Nat)(a:Int)(i:Nat)(left:Int):LV:=[(.slice g f c),(.slice r b d),(.int .u64 e),(.int .u64 left),(.int .i64 a),(iA i)]
theorem Ia(a:OA)(n c:Nat)(b:OA)(m d:Nat)(h:ae)(Q:VH)(w:FW SS 186 [(.slice a n c),(.slice b m d)] h λu v=>yI .i64 u λt=>au (decide ((t:Int)<0)) (Q (.tuple ⟨[nA,(.slice a n c)]⟩) v) (iP 177 (.slice b m d) (.int .i64 (wrap .i64 ((m:Int)-1))) λs=>xI .u64 (aj SS.P 150 v (.pointer (some s))) λr=>xI .u64 (aA SS.P .quo 150 (.int .u64 1000000000) (.int .u64 (wrap .u64 (r+1)))) λq=>FW SS 202 [(.slice a n c),(.int .u64 q)] v λo p=>yL o λj k l=>FW SS 202 [(.slice b m d),(.int .u64 q)] p λh i=>yL h λe f g=>LL SS cE [1,1,1,1,1,0,0,0] (jo a n c b m d q e f g j k l) i (KK SS cE [1,1,1,1,1,0,0] [] (EE SS cE Q)))):FW SS 189 [(.slice a n c),(.slice b m d)] h Q:=cV cE Tryz.func189 (ai w)
theorem um(a:OA)(n c:Nat)(b:OA)(m d:Nat)(v:Int)(e:OA)(t u:Nat)(s:Nat->OA->Nat->Nat->ae->Prop)(Q:VH)(step:∀(q:Nat) (r:OA) (o p:Nat) (x:Nat->Value) (h:ae),s q r o p h->au (decide (((o:Int):Int)<=(n:Int))) (xR (aI SS.P 177 1 [(0,(.int .u64 0))]) h λ_ j k l=>xE (bM SS.P 177 177 (.slice r o p) (sA (h.next) j k) l) l λf g h _ i=>aM (LA3 (jo a n c b m d v e t u) s) q [(.slice a n c),(.slice b m d),(iA m),(.int .u64 v),(.slice f g h),(.slice e t u)] i) (xR (cq SS.P 177 (.int .i64 (wrap .i64 ((o:Int)-(m:Int)))) (.int .i64 (wrap .i64 ((o:Int)-(m:Int))))) h λ_ f g i=>LL SS cE [1,1,1,1,1,1,1,0,1,0,0] (jq a n c b m d v (some ⟨h.next,0,none⟩) f g r o p e t u (f:Int) 0) i (KK SS cE [1,1,1,1,1,1,1,0,1,0] [] (EE SS cE Q))))(q:Nat){r:OA}{o p:Nat}{h:ae}(w:s q r o p h):LL SS cE [1,1,1,1,1,0,0,0] (jo a n c b m d v e t u r o p) h (KK SS cE [1,1,1,1,1,0,0] [] (EE SS cE Q)):=
 Wd (jo a n c b m d v e t u) s (λq r o p x h w=>ai (step q r o p x h w)) q w
theorem uo(a:OA)(n c:Nat)(b:OA)(m d:Nat)(B:Int)(g:OA)(s x:Nat)(r:OA)(w y:Nat)(e:OA)(z A:Nat)(t:Int)(v:Nat->Nat->ae->Prop)(Q:VH)(step:∀(u:Nat) (i:Nat) (D:Nat->Value) (h:ae),v u i h->au (decide (((i:Int):Int)<t)) (xL (bK SS.P 177 (.slice r w y) (some (.int .i64 (wrap .i64 (wrap .i64 ((s:Int)-1)-(i:Int))))) (some (.int .i64 (wrap .i64 (wrap .i64 (wrap .i64 (wrap .i64 ((s:Int)-1)-(i:Int))+(m:Int))+1)))) none h) λo p q=>FW SS 203 [(.slice o p q),(.slice e z A)] h λk l=>yI .u64 k λj=>xP (aB SS.P 177 (.slice g s x) (.int .i64 (wrap .i64 (wrap .i64 ((s:Int)-1)-(i:Int))))) λh=>xU (ah SS.P 150 (.pointer (some h)) (.int .u64 j) l) l λ_ f=>aM (fy (jq a n c b m d B g s x r w y e z A t) v) u [(.slice a n c),(.slice b m d),(.slice g s x),(iA m),(.int .u64 B),(.slice r w y),(.slice e z A),(.int .i64 t),(.int .i64 (wrap .i64 ((i:Int)+1)))] f) (FW SS 174 [(.slice r w y)] h λd e=>yL d λa b c=>LL SS cE [1,1,1,1,1,1,1,1,1,1,0,1,0,0] (jr B g s x a b c (b:Int) 0 0) e (KK SS cE [1,1,1,1,1,1,1,1,1,1,0,1,0] [] (EE SS cE Q))))(u:Nat){i:Nat}{h:ae}(C:v u i h):LL SS cE [1,1,1,1,1,1,1,0,1,0,0] (jq a n c b m d B g s x r w y e z A t i) h (KK SS cE [1,1,1,1,1,1,1,0,1,0] [] (EE SS cE Q)):=
 dm (jq a n c b m d B g s x r w y e z A t) v (λu i D h C=>ai (step u i D h C)) u C
theorem ur(a:OA)(n c:Nat)(b:OA)(m d:Nat)(s:Int)(g:OA)(u t:Nat)(r:OA)(k p:Nat)(l:Int)(q:Nat->Nat->Int->ae->Prop)(Q:VH)(step:∀(o:Nat) (i:Nat) (left:Int) (w:Nat->Value) (h:ae),q o i left h->au (decide (((i:Int):Int)<l)) (xP (aB SS.P 177 (.slice r k p) (.int .i64 (wrap .i64 (wrap .i64 ((k:Int)-1)-(i:Int))))) λf=>xI .u64 (aj SS.P 150 h (.pointer (some f))) λe=>xI .u64 (aA SS.P .quo 150 (.int .u64 (wrap .u64 (wrap .u64 (left*1000000000)+e))) (.int .u64 s)) λd=>xI .u64 (aA SS.P .rem 150 (.int .u64 (wrap .u64 (wrap .u64 (left*1000000000)+e))) (.int .u64 s)) λc=>xP (aB SS.P 177 (.slice r k p) (.int .i64 (wrap .i64 (wrap .i64 ((k:Int)-1)-(i:Int))))) λb=>xU (ah SS.P 150 (.pointer (some b)) (.int .u64 d) (room h 11)) (room h 11) λ_ a=>aM (pU (jr s g u t r k p l) q) o [(.slice g u t),(.slice r k p),(.int .u64 s),(.int .u64 c),(.int .i64 l),(.int .i64 (wrap .i64 ((i:Int)+1)))] a) (FW SS 174 [(.slice g u t)] h λi j=>yL i λf g h=>FW SS 174 [(.slice r k p)] j λd e=>yL d λa b c=>Q (.tuple ⟨[(.slice f g h),(.slice a b c)]⟩) e))(o:Nat){i:Nat}{left:Int}{h:ae}(v:q o i left h):LL SS cE [1,1,1,1,1,1,1,1,1,1,0,1,0,0] (jr s g u t r k p l i left) h (KK SS cE [1,1,1,1,1,1,1,1,1,1,0,1,0] [] (EE SS cE Q)):=
 mw (jr s g u t r k p l) q (λo i left w h v=>ai (step o i left w h v)) o v
end Go.Proofs.YtaaichlgdgjgjaaGreatDoor
end
