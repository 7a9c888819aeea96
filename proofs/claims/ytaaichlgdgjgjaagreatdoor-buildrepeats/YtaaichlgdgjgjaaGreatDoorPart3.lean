/- Laws and walks that the proof leans on (part 3): NumWeight; NumGraph; NumRatV; NumStar; NumSemi; NumSem and others. No condition. -/
import Derived.Test.YtaaichlgdgjgjaaGreatDoorPart2
import Derived.Test.YtaaichlgdgjgjaaGreatDoorProg
set_option linter.unusedVariables false
set_option linter.unusedSimpArgs false
set_option maxRecDepth 100000
open List (all_eq_true drop_eq_getElem_cons drop_zero getElem_mem length_drop length_replicate length_set length_take map_append map_set mem_append mem_cons_self mem_singleton take_of_length_le take_zero)
open Nat (lt_irrefl lt_or_ge mod_lt mul_pos ne_of_gt sub_zero)
open Option (getD_some)
open Go.IntKind (wrap)
section
namespace Go.Num
theorem Je:aA [105,110,102]=false:=by rfl
theorem vQ:aA [45,105,110,102]=false:=by rfl
theorem fz:aA [48]=true:=by decide
theorem EP{a:List UInt8}(h:aA a=true):da a [48]=0↔a=[48]:=by
 constructor
 ·intro e;unfold da at e;rw[if_pos ⟨h,fz⟩]at e;have r:=aZ.1 h;have f:val (ak [48])=1:=by decide
  have i:val (numOf [48])=0:=by decide
  rw[f,i,Nat.mul_one,Nat.zero_mul,show isNeg [48]=false from rfl,Bool.not_false]at e;have d:val (numOf a)=0:=by
   unfold dI at e;by_cases b:isNeg a=true
   ·rw[if_pos b]at e;dsimp only at e;rw[Nat.add_zero]at e;by_cases c:val (numOf a)=0
    ·exact c
    ·rw[if_neg c,if_pos b]at e;exact absurd e (by decide)
   ·rw[if_neg b,if_neg (Nat.not_lt_zero _)]at e;dsimp only at e;rw[sub_zero]at e;by_cases c:val (numOf a)=0
    ·exact c
    ·rw[if_neg c,if_neg b]at e;exact absurd e (by decide)
  have b:=(iz r.num).2 d;have k:isNeg a=false:=by
   cases g:isNeg a with
   |false=>rfl
   |true=>exact absurd ⟨g,b⟩ r.neg
  have j:ak a=[49]:=by
   refine(tJ r.den).2 ?_;have:=r.one;rw[d,Nat.gcd_zero_left]at this;exact this
  have l:bm a=false:=by
   cases g:bm a with
   |false=>rfl
   |true=>exact absurd ⟨g,.inr j⟩ r.fr
  grind[take_of_length_le,bk,numOf,bm]
 ·rintro rfl;decide
def bG(b:Int)(a:List UInt8):Bool:=decide (1<=b/\b<=3)&&aA a&&(b==1||decide (0<da a [48]))
variable{n:Nat}{m:Nat}
def fe(s:Bool)(n:Nat):Int:=if s=true then -(n:Int)else n
def bh(a:List UInt8):Rat:=mkRat (fe (isNeg a) (val (numOf a))) (val (ak a))
def cN(s:Bool)(n d:Nat):List UInt8:=(if s=true/\n≠0 then[45]else[])++(ag n++(if d=1 then[]else 47::ag d))
theorem Hh(n:Nat):∃c r,ag n=c::r/\bR c=true:=by
 have h:=cX n
 cases e:ag n with
 |nil=>grind[rG]
 |cons c r=>grind
theorem CI{c:UInt8}(r:List UInt8):∀{l:List UInt8},(∀x∈l,x≠c)->cJ c (l++r)=l.length+cJ c r
 |[],_=>by simp
 |x::l,h=>by
  show(if x=c then 0 else cJ c (l++r)+1)=_;rw[if_neg (h x (mem_cons_self ..)),CI r λy a=>h y (List.mem_cons_of_mem _ a),List.length_cons];omega
theorem SC{c:UInt8}(b:bR c=false):∀x∈ag n,x≠c:=λx a e=>by grind[cX]
structure Cu(a:List UInt8)(s:Bool)(n d:Nat):Prop where
 neg:isNeg a=s
 num:numOf a=ag n
 den:ak a=ag d
 str:bm a=decide (d≠1)
theorem I1(s:Bool)(n d:Nat):isNeg (cN s n d)=decide (s=true/\n≠0)/\bk (cN s n d)=ag n++(if d=1 then[]else 47::ag d):=by
 have b:isNeg (cN s n d)=decide (s=true/\n≠0):=by
  unfold cN isNeg;by_cases c:s=true/\n≠0
  ·rw[if_pos c,decide_eq_true c];rfl
  ·rw[if_neg c,decide_eq_false c];obtain⟨x,r,e,a⟩:=Hh n;rw[e];show(some x==some 45)=false;have:x≠45:=λe=>by rw[e]at a;exact absurd a (by decide)
   simpa using this
 refine⟨b,?_⟩;unfold bk;rw[b];unfold cN
 grind
theorem xH(s:Bool)(n d:Nat):Cu (cN s n d) (decide (s=true/\n≠0)) n d:=by
 obtain⟨b,e⟩:=I1 s n d;have f:cJ 47 (ag n++(if d=1 then[]else 47::ag d))=(ag n).length:=by
  rw[CI _ (SC (by decide))];split
  ·rfl
  ·rfl
 have a:bm (cN s n d)=decide (d≠1):=by
  unfold bm;rw[e,f];by_cases c:d=1
  ·grind
  ·grind
 refine⟨b,?_,?_,a⟩
 ·simp_all[numOf]
 ·unfold ak;rw[a];by_cases c:d=1
  all_goals simp_all[A7]
theorem rC(s:Bool):fe s 0=0:=by grind[fe]
theorem Pq(s:Bool)(n:Nat):fe (decide (s=true/\n≠0)) n=fe s n:=by
 by_cases c:n=0
 ·subst c;rw[rC,rC]
 simp_all
theorem uO(s:Bool)(n:Nat):(fe s n).natAbs=n:=by grind[fe]
theorem Cu.val{a:List UInt8}{s:Bool}(p:Cu a s n m):bh a=mkRat (fe s n) m:=by
 unfold bh;rw[p.neg,p.num,p.den,bu,bu]
theorem CM(s:Bool)(n d:Nat):bh (cN s n d)=mkRat (fe s n) d:=by rw[(xH s n d).val,Pq]
theorem A4{s:Bool}(c:(ag n).length<=400)(e:(ag m).length<=400)(d:0<m)(f:Nat.gcd n m=1):aA (cN s n m)=true:=by
 have p:=xH s n m;have b:∀a,(ag a).length<=400->valid (ag a)=true:=λa h=>gx.2 ⟨vP a,by omega⟩;refine aZ.2 ⟨?_,?_,?_,?_,?_,?_,?_⟩
 ·rw[p.num];grind
 ·rw[p.den];grind
 ·rw[p.num];omega
 ·rw[p.den];omega
 ·rw[p.neg,p.num,bL]
  grind
 ·rw[p.str,p.den,bL,ej]
  grind
 ·rw[p.num,p.den,bu,bu];omega
theorem gR.den_pos{a:List UInt8}(r:gR a):0<val (ak a):=by
 refine Nat.pos_of_ne_zero λe=>?_;have h:=(iz r.den).2 e
 cases b:bm a with
 |true=>exact r.fr ⟨b,.inl h⟩
 |false=>grind[ak]
theorem gR.txt{a:List UInt8}(r:gR a):a=cN (isNeg a) (val (numOf a)) (val (ak a)):=by
 obtain⟨n,o,_,k⟩:=cx r.num;obtain⟨d,q,_,f⟩:=cx r.den;have s:(if isNeg a=true/\val (numOf a)≠0 then[45]else([]:List UInt8))=if isNeg a=true then[45]else[]:=by
  by_cases c:isNeg a=true
  ·rw[if_pos c,if_pos ⟨c,λe=>r.neg ⟨c,(iz r.num).2 e⟩⟩]
  ·rw[if_neg c,if_neg λh=>c h.1]
 have u:a=(if isNeg a=true then[45]else[])++bk a:=by
  unfold bk;by_cases c:isNeg a=true
  ·rw[if_pos c,if_pos c];unfold isNeg at c
   cases a with
   |nil=>cases c
   |cons x l=>
    have:x=45:=by simpa using c
    rw[this];rfl
  ·rw[if_neg c,if_neg c];rfl
 have g:bm a=true↔val (ak a)≠1:=by
  constructor
  ·exact λh e=>r.fr ⟨h,.inr ((tJ r.den).2 e)⟩
  ·intro h
   cases c:bm a with
   |true=>rfl
   |false=>
    refine absurd ?_ h;unfold ak;rw[c];exact Jr
 have t:bk a=ag (val (numOf a))++(if val (ak a)=1 then[]else 47::ag (val (ak a))):=by
  rw[k,f,<-o,<-q];by_cases c:bm a=true
  ·rw[if_neg (by rw[<-f];exact g.1 c)];have i:ak a=(bk a).drop (cJ 47 (bk a)+1):=by unfold ak;rw[if_pos c]
   rw[i];unfold numOf;unfold bm at c;have c:=dT c;have b:∀{l:List UInt8},cJ 47 l<l.length->l=l.take (cJ 47 l)++47::l.drop (cJ 47 l+1):=λ{l}=>by
    induction l with
    |nil=>intro h;simp at h
    | cons x l p=>
     intro h;by_cases e:x=47
     ·have:cJ 47 (x::l)=0:=by unfold cJ;rw[if_pos e]
      rw[this,e];rfl
     ·have j:cJ 47 (x::l)=cJ 47 l+1:=by unfold cJ;rw[if_neg e];cases l<;>rfl
      rw[j,List.take_succ_cons,List.drop_succ_cons,List.cons_append,<-p (by rw[j]at h;simpa using h)]
   exact b c
  ·have m:val (ak a)=1:=Classical.byContradiction λh=>c (g.2 h);rw[if_pos (by rw[<-f];exact m),List.append_nil];unfold numOf;unfold bm at c;rw[take_of_length_le (by simp at c;exact c)]
 grind[cN]
theorem gR.wT{a:List UInt8}(r:gR a):(bh a).num=fe (isNeg a) (val (numOf a)):=by
 unfold bh;rw[Rat.num_mkRat,if_neg (ne_of_gt r.den_pos),uO,Nat.gcd_comm,r.one];simp
theorem gR.Hw{a:List UInt8}(r:gR a):(bh a).den=val (ak a):=by
 unfold bh;rw[Rat.den_mkRat,if_neg (ne_of_gt r.den_pos),uO,Nat.gcd_comm,r.one];simp
theorem wE{a b:List UInt8}(m:aA a=true)(i:aA b=true)(e:bh a=bh b):a=b:=by
 have f:=aZ.1 m;have d:=aZ.1 i;have g:=f.wT;have h:=f.Hw;rw[e,d.wT]at g;rw[e,d.Hw]at h;have l:val (numOf a)=val (numOf b):=by
  have:=congrArg Int.natAbs g;rw[uO,uO]at this;exact this.symm
 rw[f.txt,d.txt,<-h,<-l];congr 1;by_cases n:val (numOf a)=0
 ·have j:isNeg a=false:=by
   cases c:isNeg a with
   |false=>rfl
   |true=>exact absurd ⟨c,(iz f.num).2 n⟩ f.neg
  have k:isNeg b=false:=by
   cases c:isNeg b with
   |false=>rfl
   |true=>exact absurd ⟨c,(iz d.num).2 (by omega)⟩ d.neg
  rw[j,k]
 grind[fe]
theorem CO(s:Bool)(A:Nat)(t:Bool)(B:Nat):fe (dI s A t B).1 (dI s A t B).2=fe s A+fe t B:=by
 unfold dI fe
 grind
theorem FL(s:Bool)(n:Nat):fe (!s) n = - fe s n:=by grind[fe]
theorem SJ{s:Bool}:fe s n<0↔s=true/\n≠0:=by grind[fe]
theorem Jk{s:Bool}:fe s n=0↔n=0:=by grind[fe]
theorem FK(s t:Bool)(m n:Nat):fe (s !=t) (m*n)=fe s m*fe t n:=by unfold fe;grind
theorem mB(s:Bool)(m n:Nat):fe s (m*n)=fe s m*n:=by grind[fe]
theorem AZ{a b:List UInt8}(f:aA a=true)(c:aA b=true):(da a b<0↔bh a<bh b)/\(da a b=0↔bh a=bh b):=by
 have e:=aZ.1 f;have d:=aZ.1 c;unfold da;rw[if_pos ⟨f,c⟩];have h:=CO (isNeg a) (val (numOf a)*val (ak b)) (!isNeg b) (val (numOf b)*val (ak a));generalize dI (isNeg a) (val (numOf a)*val (ak b)) (!isNeg b) (val (numOf b)*val (ak a))=z at*;rw[FL,mB,mB,<-e.wT,<-d.wT,<-e.Hw,<-d.Hw]at h;rw[Rat.lt_iff,Rat.eq_iff_mul_eq_mul];have g:=SJ (s:=z.1) (n:=z.2);have i:=Jk (s:=z.1) (n:=z.2)
 grind
def lQ(s:Bool)(n d:Nat):Option (List UInt8):=if 400<(ag (n/Nat.gcd n d)).length\/400<(ag (d/Nat.gcd n d)).length then none else some (cN s (n/Nat.gcd n d) (d/Nat.gcd n d))
def qp(a b:List UInt8):Option (List UInt8):=lQ (dI (isNeg a) (val (numOf a)*val (ak b)) (isNeg b) (val (numOf b)*val (ak a))).1 (dI (isNeg a) (val (numOf a)*val (ak b)) (isNeg b) (val (numOf b)*val (ak a))).2 (val (ak a)*val (ak b))
def CK(a b:List UInt8):Option (List UInt8):=lQ (isNeg a !=isNeg b) (val (numOf a)*val (numOf b)) (val (ak a)*val (ak b))
def Hd(a b:List UInt8):Option (List UInt8):=lQ (isNeg a !=isNeg b) (val (numOf a)*val (ak b)) (val (ak a)*val (numOf b))
def qq(a:List UInt8):List UInt8:=cN (!isNeg a) (val (numOf a)) (val (ak a))
theorem tB{s:Bool}{c:List UInt8}(b:0<m)(h:lQ s n m=some c):aA c=true/\bh c=mkRat (fe s n) m:=by
 unfold lQ at h;split at h
 ·cases h
 ·next g=>
  obtain rfl:=oI h;have e:0<Nat.gcd n m:=Nat.gcd_pos_of_pos_right n b;have f:=Nat.gcd_dvd_left n m;have d:=Nat.gcd_dvd_right n m;have a:0<m/Nat.gcd n m:=Nat.div_pos (Nat.le_of_dvd b d) e;refine⟨A4 (by omega) (by omega) a ?_,?_⟩
  ·grind[Nat.gcd_div,Nat.div_self]
  ·rw[CM,Rat.mkRat_eq_iff (ne_of_gt a) (ne_of_gt b),<-mB,<-mB]
   grind[Nat.div_mul_cancel,Nat.mul_assoc]
theorem L0{s:Bool}(a:(ag n).length<=400)(b:(ag m).length<=400)(c:Nat.gcd n m=1):lQ s n m=some (cN s n m):=by simp_all[lQ]
theorem pN{a b c:List UInt8}(j:aA a=true)(f:aA b=true)(h:qp a b=some c):aA c=true/\bh c=bh a+bh b:=by
 have e:=aZ.1 j;have d:=aZ.1 f;obtain⟨g,i⟩:=tB (mul_pos e.den_pos d.den_pos) h;refine⟨g,?_⟩;rw[i,CO,mB,mB];unfold bh;rw[Rat.mkRat_add_mkRat _ _ (ne_of_gt e.den_pos) (ne_of_gt d.den_pos)]
theorem Jf{a b c:List UInt8}(g:aA a=true)(d:aA b=true)(h:CK a b=some c):aA c=true/\bh c=bh a*bh b:=by
 have f:=aZ.1 g;have e:=aZ.1 d;obtain⟨i,j⟩:=tB (mul_pos f.den_pos e.den_pos) h
 grind[FK,Rat.mkRat_mul_mkRat,bh]
theorem I9{a b c:List UInt8}(l:aA a=true)(i:aA b=true)(f:val (numOf b)≠0)(h:Hd a b=some c):aA c=true/\bh c=bh a*(bh b)⁻¹:=by
 have d:=aZ.1 l;have g:=aZ.1 i;obtain⟨j,k⟩:=tB (mul_pos d.den_pos (Nat.pos_of_ne_zero f)) h;refine⟨j,?_⟩;have m:bh c*bh b=bh a:=by
  rw[k,FK];unfold bh;rw[Rat.mkRat_mul_mkRat,Rat.mkRat_eq_iff (ne_of_gt (mul_pos (mul_pos d.den_pos (Nat.pos_of_ne_zero f)) g.den_pos)) (ne_of_gt d.den_pos)];have e:∀(s t:Bool)(A B C D:Nat),fe s A*fe t B*fe t C*(D:Int)=fe s A*((D*C*B:Nat):Int):=λs t A B C D=>by
   unfold fe
   cases s<;>cases t<;>simp<;>grind
  exact e _ _ _ _ _ _
 have n:bh b≠0:=λe=>f (by
  have:=g.wT;rw[e]at this;exact Jk.1 this.symm)
 grind
theorem uM{a:List UInt8}(g:aA a=true):aA (qq a)=true/\bh (qq a) = - bh a:=by
 have b:=aZ.1 g;obtain⟨n,e,_,c⟩:=cx b.num;obtain⟨d,f,_,h⟩:=cx b.den;unfold qq;refine⟨A4 ?_ ?_ b.den_pos b.one,?_⟩
 ·rw[c,<-e];exact b.ln
 ·rw[h,<-f];exact b.ld
 grind[CM,FL,Rat.neg_mkRat,bh]
section
structure aN(K:Type) where
 zero:K
 one:K
 add:K->K->K
 mul:K->K->K
 star:K->K
 le:K->K->Prop
 add_assoc:∀a b c,add (add a b) c=add a (add b c)
 add_comm:∀a b,add a b=add b a
 zero_add:∀a,add zero a=a
 mul_assoc:∀a b c,mul (mul a b) c=mul a (mul b c)
 mul_comm:∀a b,mul a b=mul b a
 one_mul:∀a,mul one a=a
 zero_mul:∀a,mul zero a=zero
 mul_add:∀a b c,mul a (add b c)=add (mul a b) (mul a c)
 le_refl:∀a,le a a
 le_trans:∀{a b c},le a b->le b c->le a c
 Ce:∀{a b},le a b->le b a->a=b
 zero_le:∀a,le zero a
 wI:∀{a b c d},le a b->le c d->le (add a c) (add b d)
 HV:∀{a b}(c),le a b->le (mul c a) (mul c b)
 ze:∀a,add one (mul a (star a))=star a
 sJ:∀{a b x},le (add b (mul a x)) x->le (mul (star a) b) x
namespace aN
def bS{K:Type}(S:aN K)(f:Nat->K):Nat->K
 |0=>S.zero
 |n+1=>S.add (bS S f n) (f n)
variable {K:Type} {S:aN K}
theorem add_zero(a:K):S.add a S.zero=a:=by rw[S.add_comm,S.zero_add]
theorem mul_zero(a:K):S.mul a S.zero=S.zero:=by rw[S.mul_comm,S.zero_mul]
theorem mul_one(a:K):S.mul a S.one=a:=by rw[S.mul_comm,S.one_mul]
theorem add_mul(a b c:K):S.mul (S.add a b) c=S.add (S.mul a c) (S.mul b c):=by rw[S.mul_comm,S.mul_add,S.mul_comm c a,S.mul_comm c b]
theorem E2(a b c:K):S.add a (S.add b c)=S.add b (S.add a c):=by rw[<-S.add_assoc,S.add_comm a b,S.add_assoc]
theorem aaW(a b c d:K):S.add (S.add a b) (S.add c d)=S.add (S.add a c) (S.add b d):=by rw[S.add_assoc,S.add_assoc,E2 b c d]
theorem ax{f g:Nat->K}:∀{n:Nat},(∀i,i<n->f i=g i)->S.bS f n=S.bS g n
 |0,_=>rfl
 |n+1,h=>by
  show S.add _ _=S.add _ _;rw[ax λi a=>h i (Nat.lt_succ_of_lt a),h n (Nat.lt_succ_self n)]
theorem gG(f g:Nat->K):∀n,S.bS (λi=>S.add (f i) (g i)) n=S.add (S.bS f n) (S.bS g n)
 |0=>(S.zero_add _).symm
 |n+1=>by
  show S.add (S.bS _ n) _=S.add (S.add _ _) (S.add _ _);rw[gG f g n,aaW]
theorem qh(c:K)(f:Nat->K):∀n,S.bS (λi=>S.mul c (f i)) n=S.mul c (S.bS f n)
 |0=>(mul_zero c).symm
 |n+1=>by
  show S.add (S.bS _ n) _=S.mul c (S.add _ _);rw[qh c f n,S.mul_add]
theorem vt(c:K)(f:Nat->K)(n:Nat):S.bS (λi=>S.mul (f i) c) n=S.mul (S.bS f n) c:=by
 rw[S.mul_comm,<-qh];exact ax λi _=>S.mul_comm _ _
theorem dR:∀n,S.bS (λ_=>S.zero) n=S.zero
 |0=>rfl
 |n+1=>by
  show S.add (S.bS _ n) _=_;rw[dR n,S.zero_add]
theorem zj(f:Nat->Nat->K)(m:Nat):∀n,S.bS (λi=>S.bS (f i) m) n=S.bS (λj=>S.bS (λi=>f i j) n) m
 |0=>(dR m).symm
 |n+1=>by
  show S.add (S.bS _ n) _=_;rw[zj f m n,<-gG];rfl
theorem Ws{f g:Nat->K}:∀{n:Nat},(∀i,i<n->S.le (f i) (g i))->S.le (S.bS f n) (S.bS g n)
 |0,_=>S.le_refl _
 |n+1,h=>S.wI (Ws λi a=>h i (Nat.lt_succ_of_lt a)) (h n (Nat.lt_succ_self n))
theorem le_of_eq{a b:K}(h:a=b):S.le a b:=h▸S.le_refl a
def elim{K:Type}(S:aN K)(a:Nat->Nat->K):Nat->Nat->Nat->K
 |0=>a
 |k+1=>λi j=>S.add (elim S a k i j) (S.mul (S.mul (elim S a k i k) (S.star (elim S a k k k))) (elim S a k k j))
theorem Wm(a b:K):S.add b (S.mul (S.mul b (S.star a)) a)=S.mul b (S.star a):=by
 have h:S.mul b (S.add S.one (S.mul a (S.star a)))=S.mul b (S.star a):=by rw[S.ze]
 rw[S.mul_add,mul_one]at h;rw[S.mul_assoc,S.mul_comm (S.star a) a];exact h
theorem Ox(a:Nat->Nat->K):∀(k i j:Nat),elim S a k i j=S.add (a i j) (S.bS (λl=>S.mul (a i l) (elim S a k l j)) k)
 |0,i,j=>(add_zero _).symm
 | k+1,i,j=>by
  have b:=Ox a k;show S.add (elim S a k i j) _=S.add (a i j) (S.add (S.bS _ k) (S.mul (a i k) (elim S a (k+1) k j)));have d:S.bS (λl=>S.mul (a i l) (elim S a (k+1) l j)) k=S.add (S.bS (λl=>S.mul (a i l) (elim S a k l j)) k) (S.mul (S.bS (λl=>S.mul (a i l) (elim S a k l k)) k) (S.mul (S.star (elim S a k k k)) (elim S a k k j))):=by
   rw[<-vt,<-gG];refine ax λl _=>?_;show S.mul (a i l) (S.add _ _)=_;rw[S.mul_add,S.mul_assoc,S.mul_assoc]
  have e:elim S a (k+1) k j=S.mul (S.star (elim S a k k k)) (elim S a k k j):=by
   show S.add (elim S a k k j) _=_;rw[S.mul_comm (elim S a k k k) _,S.mul_assoc];have h:=S.ze (elim S a k k k);have c:S.mul (S.add S.one (S.mul (elim S a k k k) (S.star (elim S a k k k)))) (elim S a k k j)=S.mul (S.star (elim S a k k k)) (elim S a k k j):=by rw[h]
   rw[add_mul,S.one_mul,S.mul_comm (elim S a k k k),S.mul_assoc]at c;exact c
  rw[d,e,S.add_assoc,<-S.add_assoc (a i j),<-b i j];congr 1;rw[<-add_mul,S.add_comm (S.bS _ _) (a i k),<-b i k,S.mul_assoc]
def pF(S:aN K)(a:Nat->Nat->K)(n:Nat)(c:Nat->K)(i:Nat):K:=S.add (c i) (S.bS (λj=>S.mul (elim S a n i j) (c j)) n)
theorem xf(a:Nat->Nat->K)(n:Nat)(c:Nat->K)(i:Nat):pF S a n c i=S.add (c i) (S.bS (λl=>S.mul (a i l) (pF S a n c l)) n):=by
 unfold pF;congr 1;have b:S.bS (λj=>S.mul (elim S a n i j) (c j)) n=S.add (S.bS (λj=>S.mul (a i j) (c j)) n) (S.bS (λj=>S.bS (λl=>S.mul (a i l) (S.mul (elim S a n l j) (c j))) n) n):=by
  rw[<-gG];refine ax λj _=>?_;rw[Ox a n i j,add_mul,<-vt];congr 1;exact ax λl _=>S.mul_assoc _ _ _
 rw[b,zj,<-gG];refine ax λl _=>?_;rw[S.mul_add,qh]
theorem oK{f:Nat->K}(k:Nat):∀{n:Nat},k<=n->S.bS f n=S.add (S.bS f k) (S.bS (λi=>f (k+i)) (n-k))
 |0,h=>by
  obtain rfl:k=0:=by omega
  exact(S.zero_add _).symm
 | n+1,h=>by
  by_cases e:k=n+1
  ·subst e;rw[Nat.sub_self];exact(add_zero _).symm
  ·have a:k<=n:=by omega
   rw[show n+1-k=(n-k)+1 by omega];show S.add (S.bS f n) (f n)=S.add _ (S.add _ (f (k+(n-k))));rw[oK k a,S.add_assoc,show k+(n-k)=n by omega]
theorem Oy(a:Nat->Nat->K){n:Nat}{c x:Nat->K}(o:∀i,i<n->S.le (S.add (c i) (S.bS (λj=>S.mul (a i j) (x j)) n)) (x i)):∀(k:Nat),k<=n->∀i,i<n->S.le (S.add (c i) (S.bS (λj=>S.mul (elim S a k i j) (if j<k then c j else x j)) n)) (x i)
 |0,_,i,l=>by
  have h:=o i l;exact h
 | k+1,y,i,l=>by
  have d:=Oy a o k (by omega);have p:k<n:=by omega
  have b:∀(g:Nat->K),S.bS g n=S.add (g k) (S.bS (λj=>if j=k then S.zero else g j) n):=λg=>by
   have w:∀m,S.bS g m=S.add (if k<m then g k else S.zero) (S.bS (λj=>if j=k then S.zero else g j) m):=λm=>by
    induction m with
    |zero=>rw[if_neg (Nat.not_lt_zero k)];exact(S.zero_add _).symm
    | succ m d=>
     show S.add (S.bS g m) (g m)=S.add _ (S.add (S.bS _ m) (if m=k then S.zero else g m));rw[d];by_cases e:m=k
     ·subst e;rw[if_neg (lt_irrefl m),if_pos (Nat.lt_succ_self m),if_pos rfl,S.zero_add,add_zero,S.add_comm]
     ·by_cases h:k<m
      ·rw[if_pos h,if_pos (by omega),if_neg e,S.add_assoc]
      ·rw[if_neg h,if_neg (by omega),if_neg e,S.add_assoc]
   grind
  let s:=S.star (elim S a k k k)
  let r:=S.add (c k) (S.bS (λj=>if j=k then S.zero else S.mul (elim S a k k j) (if j<k then c j else x j)) n)
  have t:S.le (S.mul s r) (x k):=by
   refine S.sJ ?_;have h:=d k p;rw[b]at h;rw[if_neg (lt_irrefl k)]at h;refine S.le_trans (le_of_eq ?_) h;show S.add (S.add (c k) _) _=_;rw[S.add_assoc,S.add_comm (S.bS _ n)]
  have f:=d i l;rw[b]at f;rw[if_neg (lt_irrefl k)]at f;refine S.le_trans (le_of_eq ?_) (S.le_trans (S.wI (S.le_refl (c i)) (S.wI (S.HV (elim S a k i k) t) (S.le_refl (S.bS (λj=>if j=k then S.zero else S.mul (elim S a k i j) (if j<k then c j else x j)) n)))) f);congr 1;rw[b];rw[if_pos (Nat.lt_succ_self k)];have q:S.mul (elim S a (k+1) i k) (c k)=S.mul (elim S a k i k) (S.mul s (c k)):=by
   show S.mul (S.add _ _) _=_;rw[Wm,S.mul_assoc]
  have v:S.mul (elim S a k i k) (S.mul s r)=S.add (S.mul (elim S a k i k) (S.mul s (c k))) (S.bS (λj=>if j=k then S.zero else S.mul (S.mul (S.mul (elim S a k i k) s) (elim S a k k j)) (if j<k then c j else x j)) n):=by
   show S.mul _ (S.mul s (S.add _ _))=_;rw[S.mul_add,S.mul_add];congr 1;rw[<-S.mul_assoc,<-qh];refine ax λj _=>?_;by_cases e:j=k
   ·rw[if_pos e,if_pos e,mul_zero]
   ·rw[if_neg e,if_neg e,S.mul_assoc (S.mul _ s)]
  rw[q,v,S.add_assoc,<-gG];congr 1;refine ax λj _=>?_;by_cases e:j=k
  ·rw[if_pos e,if_pos e,if_pos e,S.zero_add]
  ·rw[if_neg e,if_neg e,if_neg e];have u:(if j<k+1 then c j else x j)=if j<k then c j else x j:=by
    by_cases h:j<k
    ·grind
    ·grind
   rw[u];show S.mul (S.add _ _) _=_;rw[add_mul,S.add_comm]
theorem vo(a:Nat->Nat->K){n:Nat}{c x:Nat->K}(b:∀i,i<n->S.le (S.add (c i) (S.bS (λj=>S.mul (a i j) (x j)) n)) (x i)){i:Nat}(d:i<n):S.le (pF S a n c i) (x i):=by
 refine S.le_trans (le_of_eq ?_) (Oy a b n (Nat.le_refl _) i d)
 simp_all[ax,pF]
end aN
end
end Go.Num
end
section
namespace Go.Num
inductive tg where
 |fin (q:Rat)
 |inf
 |low
namespace tg
def add:tg->tg->tg
 |low,_=>low
 |_,low=>low
 |inf,b=>b
 |a,inf=>a
 |fin p,fin q=>fin (if p<=q then p else q)
def mul:tg->tg->tg
 |inf,_=>inf
 |_,inf=>inf
 |low,_=>low
 |_,low=>low
 |fin p,fin q=>fin (p+q)
def star:tg->tg
 |inf=>fin 0
 |low=>low
 |fin p=>if 0<=p then fin 0 else low
def le:tg->tg->Prop
 |inf,_=>True
 |_,low=>True
 |fin p,fin q=>q<=p
 |_,_=>False
def S:aN tg where
 zero:=inf
 one:=fin 0
 add:=add
 mul:=mul
 star:=star
 le:=le
 add_assoc a b c:=by cases a<;>cases b<;>cases c<;>simp only[add]<;>(try rfl)<;>(grind)
 add_comm a b:=by cases a<;>cases b<;>simp only[add]<;>(grind)
 zero_add a:=by cases a<;>rfl
 mul_assoc a b c:=by cases a<;>cases b<;>cases c<;>simp only[mul]<;>(grind)
 mul_comm a b:=by cases a<;>cases b<;>simp only[mul]<;>(grind)
 one_mul a:=by cases a<;>simp only[mul]<;>(grind)
 zero_mul a:=by rfl
 mul_add a b c:=by cases a<;>cases b<;>cases c<;>simp only[mul,add]<;>(grind)
 le_refl a:=by cases a<;>simp only[le]<;>grind
 le_trans {a b c} e f:=by cases a<;>cases b<;>cases c<;>simp only[le]at*<;>grind
 Ce {a b} e f:=by cases a<;>cases b<;>simp only[le]at*<;>grind
 zero_le a:=by cases a<;>trivial
 wI {a b c d} e f:=by cases a<;>cases b<;>cases c<;>cases d<;>simp only[le,add]at*<;>grind
 HV {a b} c h:=by cases a<;>cases b<;>cases c<;>simp only[le,mul]at*<;>grind
 ze a:=by
  cases a with
  |fin p=>grind[star,mul,add]
  |inf=>rfl
  |low=>rfl
 sJ {a b x} h:=by
  cases a with
  |fin p=>
   simp only[star];split<;>cases b<;>cases x<;>simp only[mul,add,le]at*<;>grind
  |inf=>cases b<;>cases x<;>simp only[star,mul,add,le]at*<;>grind
  |low=>cases b<;>cases x<;>simp only[star,mul,add,le]at*<;>grind
end tg
end Go.Num
namespace Go.Num
inductive gh where
 |fin (q:Rat) (h:0<=q)
 |inf
namespace gh
theorem ext{p q:Rat}{h:0<=p}{a:0<=q}(e:p=q):fin p h=fin q a:=by grind
def mul:gh->gh->gh
 |fin p b,fin q a=>fin (p*q) (Rat.mul_nonneg b a)
 |fin p b,inf=>if p=0 then fin 0 (by grind)else inf
 |inf,fin q a=>if q=0 then fin 0 (by grind)else inf
 |inf,inf=>inf
def add:gh->gh->gh
 |fin p b,fin q a=>fin (p+q) (by grind)
 |_,_=>inf
def le:gh->gh->Prop
 |_,inf=>True
 |fin p _,fin q _=>p<=q
 |inf,fin _ _=>False
theorem inv_pos{p:Rat}(h:p<1):0<=(1-p)⁻¹:=by grind[Rat.inv_pos]
def star:gh->gh
 |inf=>inf
 |fin p _=>if h:p<1 then fin (1-p)⁻¹ (inv_pos h)else inf
theorem afp{p q:Rat}:p*q=0↔p=0\/q=0:=by grind
theorem MQ(a b c:gh):mul (mul a b) c=mul a (mul b c):=by
 cases a with
 | fin p f=>
  cases b with
  |fin q e=>
   cases c with
   |fin r d=>exact ext (Rat.mul_assoc p q r)
   |inf=>grind[mul]
  |inf=>
   cases c with
   |fin r d=>grind[mul]
   |inf=>grind[mul]
 | inf=>
  cases b with
  |fin q e=>
   cases c with
   |fin r d=>grind[mul]
   |inf=>grind[mul]
  |inf=>
   cases c with
   |fin r d=>grind[mul]
   |inf=>rfl
theorem Gh(a b:gh):mul a b=mul b a:=by
 cases a<;>cases b<;>simp only[mul]
 simp[Rat.mul_comm]
theorem UT(a:gh):mul (fin 1 (by grind)) a=a:=by
 cases a with
 |fin p b=>exact ext (Rat.one_mul p)
 |inf=>rfl
theorem AY(a:gh):mul (fin 0 (by grind)) a=fin 0 (by grind):=by
 cases a with
 |fin p b=>exact ext (Rat.zero_mul p)
 |inf=>rfl
theorem UM(a b c:gh):mul a (add b c)=add (mul a b) (mul a c):=by
 cases a with
 |fin p e=>
  cases b<;>cases c<;>simp only[mul,add]
  ·exact ext (Rat.mul_add _ _ _)
  all_goals grind
 | inf=>
  cases b with
  |fin q d=>
   cases c with
   |fin r f=>grind[mul,add]
   |inf=>grind[mul,add]
  |inf=>rfl
theorem OH{a b:gh}(c:gh)(h:le a b):le (mul c a) (mul c b):=by
 cases c with
 | fin p i=>
  cases a with
  | fin q g=>
   cases b with
   |fin r d=>exact Rat.mul_le_mul_of_nonneg_left h i
   |inf=>
    simp only[mul];by_cases e:p=0
    all_goals simp_all[le]
  |inf=>
   cases b with
   |fin r d=>exact h.elim
   |inf=>grind[mul,le]
 | inf=>
  cases a with
  | fin q g=>
   cases b with
   | fin r d=>
    have h:q<=r:=h;simp only[mul];by_cases f:r=0
    ·have:q=0:=by grind
     simp[f,this,le]
    simp_all[le]
   |inf=>simp[mul,le]
  |inf=>
   cases b with
   |fin r d=>exact h.elim
   |inf=>simp[mul,le]
theorem inv_eq{p:Rat}(h:p<1):1+p*(1-p)⁻¹=(1-p)⁻¹:=by grind
theorem Qu{p b x:Rat}(h:p<1)(e:b+p*x<=x):(1-p)⁻¹*b<=x:=by
 have a:(1-p)⁻¹*(1-p)=1:=Rat.inv_mul_cancel _ (by grind);have c:b<=(1-p)*x:=by grind
 have d:=Rat.mul_le_mul_of_nonneg_left c (inv_pos h);have f:(1-p)⁻¹*((1-p)*x)=x:=by rw[<-Rat.mul_assoc,a,Rat.one_mul]
 grind
def S:aN gh where
 zero:=fin 0 (by grind)
 one:=fin 1 (by grind)
 add:=add
 mul:=mul
 star:=star
 le:=le
 add_assoc a b c:=by
  cases a<;>cases b<;>cases c<;>simp only[add]
  grind
 add_comm a b:=by
  cases a<;>cases b<;>simp only[add]
  grind
 zero_add a:=by
  cases a with
  |fin p i=>exact ext (Rat.zero_add p)
  |inf=>rfl
 mul_assoc:=MQ
 mul_comm:=Gh
 one_mul:=UT
 zero_mul:=AY
 mul_add:=UM
 le_refl a:=by cases a<;>simp only[le]<;>grind
 le_trans {a b c} f g:=by cases a<;>cases b<;>cases c<;>simp only[le]at*<;>grind
 Ce {a b} f g:=by
  cases a<;>cases b<;>simp only[le]at*
  grind
 zero_le a:=by cases a<;>simp only[le]<;>assumption
 wI {a b c d} f g:=by cases a<;>cases b<;>cases c<;>cases d<;>simp only[le,add]at*<;>grind
 HV {a b} c h:=OH c h
 ze a:=by
  cases a with
  |fin p i=>
   simp only[star];split
   ·next h=>exact ext (inv_eq h)
   grind[mul,add]
  |inf=>rfl
 sJ {a b x} h:=by
  cases x with
  |inf=>grind[le]
  | fin r j=>
   cases b with
   |inf=>exact h.elim
   | fin q k=>
    cases a with
    | fin p i=>
     have h:q+p*r<=r:=h;simp only[star];split
     ·next f=>exact Qu f h
     ·next f=>
      have g:r<=p*r:=by
       have:=Rat.mul_le_mul_of_nonneg_right (show(1:Rat)<=p by grind) j
       grind
      grind[mul,le]
    | inf=>
     simp only[star,mul]at*;by_cases e:r=0
     ·subst e;simp only[if_pos rfl]at h;have h:q+0<=0:=h
      grind[le]
     ·rw[if_neg e]at h;exact h.elim
def max:gh->gh->gh
 |fin p b,fin q a=>fin (if p<=q then q else p) (by grind)
 |_,_=>inf
def uB:gh->gh
 |inf=>inf
 |fin p _=>if p<=1 then fin 1 (by grind)else inf
theorem OF{a b:gh}(h:le a b):max a b=b:=by
 cases a<;>cases b<;>simp only[le,max]at*
 grind
theorem UH{a b:gh}(h:le b a):max a b=a:=by
 cases a<;>cases b<;>simp only[le,max]at*
 grind
theorem WR(a b:gh):le a b\/le b a:=by cases a<;>cases b<;>simp only[le]<;>grind
def V:aN gh:={ S with
 add:=max
 star:=uB
 add_assoc:=λa b c=>by cases a<;>cases b<;>cases c<;>simp only[max]<;>exact ext (by grind)
 add_comm:=λa b=>by cases a<;>cases b<;>simp only[max]<;>exact ext (by grind)
 zero_add:=λa=>OF (S.zero_le a)
 mul_add:=λa b c=>by
  show mul a (max b c)=max (mul a b) (mul a c)
  grind[WR,OF,OH,UH]
 wI:=λ{a b c d} i m=>by cases a<;>cases b<;>cases c<;>cases d<;>simp only[S,le,max]at*<;>grind
 ze:=λa=>by
  show max (fin 1 (by grind)) (mul a (uB a))=uB a
  cases a with
  |fin p k=>
   simp only[uB];split
   ·next h=>exact ext (by grind)
   grind[mul,max]
  |inf=>rfl
 sJ:=λ{a b x} h=>by
  have h:le (max b (mul a x)) x:=h;show le (mul (uB a) b) x;have g:le b x:=by
   refine S.le_trans (?_:le b (max b (mul a x))) h;rcases WR b (mul a x)with e|e
   ·grind[OF]
   ·rw[UH e];exact S.le_refl b
  have f:le (mul a x) x:=by
   refine S.le_trans (?_:le (mul a x) (max b (mul a x))) h;rcases WR b (mul a x)with e|e
   ·rw[OF e];exact S.le_refl _
   ·grind[UH]
  cases x with
  |inf=>grind[le]
  | fin r o=>
   cases b with
   |inf=>exact g.elim
   | fin q l=>
    have g:q<=r:=g
    cases a with
    | fin p k=>
     have f:p*r<=r:=f;simp only[uB];split
     ·next i=>
      show 1*q<=r
      grind
     ·next i=>
      have:r=0:=by
       refine Classical.byContradiction λc=>?_;have j:0<r:=by grind
       have n:=Rat.mul_lt_mul_of_pos_right (show(1:Rat)<p by grind) j
       grind
      grind[mul]
    |inf=>
     simp only[mul]at f;by_cases e:r=0
     ·grind[uB,mul]
     ·rw[if_neg e]at f;exact f.elim }
end gh
end Go.Num
end
section
namespace Go.Num
variable{z:Int}
abbrev di:List UInt8:=[105,110,102]
abbrev iq:List UInt8:=[45,105,110,102]
def aM(b:Int)(a:List UInt8):Bool:=decide (1<=b/\b<=3)&&(a==[105,110,102]||a==[45,105,110,102]&&b==1||aA a&&(b==1||decide (0<=da a [48])))
def bE(a:Int):List UInt8:=if a=1 then di else[48]
def qN(a:Int):List UInt8:=if a=1 then[48]else[49]
def dt(a b:List UInt8):Int:=if a=b then 0 else if a=iq\/b=di then -1 else if a=di\/b=iq then 1 else da a b
def Hb(c:Int)(a b:List UInt8):Int:=if c=1 then dt a b else dt b a
def eM(c:Int)(a b:List UInt8):Option (List UInt8):=if c≠2 then some (if Hb c b a<0 then b else a)else if a=di\/b=di then some di else qp a b
def dg(c:Int)(a b:List UInt8):Option (List UInt8):=if a=bE c\/b=bE c then some (bE c)else if a=di\/b=di then some di else if a=iq\/b=iq then some iq else if c=1 then qp a b else CK a b
def lR(b:Int)(a:List UInt8):Option (List UInt8):=if b=1 then(if dt a [48]>=0 then some [48]else some iq)else if b=3 then(if dt a [49]<=0 then some [49]else some di)else if dt a [49]>=0 then some di else match qp [49] (qq a)with
 |some d=>Hd [49] d
 |none=>none
def CD(a:List UInt8):tg:=if a=di then .inf else if a=iq then .low else .fin (bh a)
noncomputable def k6(a:List UInt8):gh:=if a=di then .inf else if h:0<=bh a then .fin (bh a) h else .inf
structure pM{K:Type}(S:aN K)(dec:List UInt8->K)(kind:Int):Prop where
 zero:dec (bE kind)=S.zero
 one:dec (qN kind)=S.one
 inj:∀{a b:List UInt8},aM kind a=true->aM kind b=true->dec a=dec b->a=b
 plus:∀{a b c:List UInt8},aM kind a=true->aM kind b=true->eM kind a b=some c->aM kind c=true/\dec c=S.add (dec a) (dec b)
 times:∀{a b c:List UInt8},aM kind a=true->aM kind b=true->dg kind a b=some c->aM kind c=true/\dec c=S.mul (dec a) (dec b)
 star:∀{a c:List UInt8},aM kind a=true->lR kind a=some c->aM kind c=true/\dec c=S.star (dec a)
theorem fF:aA [49]=true:=by decide
theorem jz:bh [48]=0:=by rfl
theorem lb:bh [49]=1:=by rfl
theorem cz{a:List UInt8}(h:aA a=true):a≠di/\a≠iq:=by
 constructor<;>intro e<;>rw[e]at h<;>exact absurd h (by decide)
theorem gL{a:List UInt8}(h:aM z a=true):z=1\/z=2\/z=3:=by
 unfold aM at h
 grind
theorem m3{a:List UInt8}:aM 1 a=true↔a=di\/a=iq\/aA a=true:=by simp_all[or_assoc,aM]
theorem SG{a:List UInt8}(h:aA a=true):0<=da a [48]↔0<=bh a:=by
 have:=(AZ h fz).1
 grind[jz]
theorem iw(d:z=2\/z=3){a:List UInt8}:aM z a=true↔a=di\/(aA a=true/\0<=bh a):=by
 have b:decide (1<=z/\z<=3)=true:=by simp;omega
 have c:(z==1)=false:=by rcases d with rfl|rfl<;>rfl
 unfold aM;rw[b,c,Bool.true_and,Bool.and_false,Bool.or_false,Bool.false_or,Bool.or_eq_true,Bool.and_eq_true,beq_iff_eq,decide_eq_true_eq]
 grind[SG]
theorem dn{a:List UInt8}(h:aA a=true):CD a = .fin (bh a):=by simp_all[cz,CD]
theorem oR:CD di = .inf:=by rfl
theorem mw:CD iq = .low:=by rfl
theorem de{a:List UInt8}(h:aA a=true)(b:0<=bh a):k6 a = .fin (bh a) b:=by simp_all[cz,k6]
theorem jw:k6 di = .inf:=by rfl
theorem rp{a b:List UInt8}(d:aA a=true)(c:aA b=true):(dt a b<0↔bh a<bh b)/\(dt a b=0↔bh a=bh b):=by
 obtain⟨f,g⟩:=AZ d c;unfold dt;by_cases e:a=b
 all_goals simp_all[cz]
theorem zy{a b:List UInt8}(d:aA a=true)(c:aA b=true):dt a b>=0↔bh b<=bh a:=by
 have:=(rp d c).1
 grind
theorem Pg{a b:List UInt8}(d:aA a=true)(c:aA b=true):dt a b<=0↔bh a<=bh b:=by
 obtain⟨e,f⟩:=rp d c
 grind
theorem aaQ:pM tg.S CD 1 where
 zero:=oR
 one:=by rfl
 inj:=λ{a b} d f e=>by grind[m3,oR,mw,dn,wE]
 plus:=λ{a b c} d f e=>by
  have e:some (if dt b a<0 then b else a)=some c:=e;obtain rfl:=oI e;refine⟨by grind,?_⟩;rcases m3.1 d with rfl|rfl|d<;>rcases m3.1 f with rfl|rfl|f
  ·rfl
  ·rfl
  ·have:dt b di = -1:=by unfold dt;rw[if_neg (cz f).1,if_pos (.inr rfl)]
   rw[this,if_pos (by omega),oR,dn f];rfl
  ·rfl
  ·rfl
  ·have:dt b iq=1:=by unfold dt;rw[if_neg (cz f).2,if_neg (λc=>c.elim (cz f).2 (by decide)),if_pos (.inr rfl)]
   rw[this,if_neg (by omega),mw,dn f];rfl
  ·have:dt di a=1:=by unfold dt;rw[if_neg (λe=>(cz d).1 e.symm),if_neg (λc=>c.elim (by decide) (cz d).1),if_pos (.inl rfl)]
   rw[this,if_neg (by omega),oR,dn d];rfl
  ·have:dt iq a = -1:=by unfold dt;rw[if_neg (λe=>(cz d).2 e.symm),if_pos (.inl rfl)]
   rw[this,if_pos (by omega),mw,dn d];rfl
  ·have h:=(rp f d).1;rw[dn d,dn f];show _=tg.fin (if bh a<=bh b then bh a else bh b);by_cases c:dt b a<0
   ·rw[if_pos c,dn f,if_neg (Rat.not_le.2 (h.1 c))]
   ·rw[if_neg c,dn d,if_pos (Rat.not_lt.1 λx=>c (h.2 x))]
 times:=λ{a b c} d f e=>by
  unfold dg at e;rw[show bE 1=di from rfl]at e;rcases m3.1 d with rfl|rfl|d
  ·rw[if_pos (.inl rfl)]at e;obtain rfl:=oI e;refine⟨d,?_⟩;rfl
  ·rcases m3.1 f with rfl|rfl|f
   ·rw[if_pos (.inr rfl)]at e;obtain rfl:=oI e;exact⟨f,by rfl⟩
   ·rw[if_neg (by decide),if_neg (by decide),if_pos (.inl rfl)]at e;obtain rfl:=oI e;exact⟨f,by rfl⟩
   ·rw[if_neg (λc=>c.elim (by decide) (cz f).1),if_neg (λc=>c.elim (by decide) (cz f).1),if_pos (.inl rfl)]at e;obtain rfl:=oI e;exact⟨d,by rw[mw,dn f];rfl⟩
  ·rcases m3.1 f with rfl|rfl|f
   ·rw[if_pos (.inr rfl)]at e;obtain rfl:=oI e;exact⟨f,by rw[oR,dn d];rfl⟩
   ·rw[if_neg (λc=>c.elim (cz d).1 (by decide)),if_neg (λc=>c.elim (cz d).1 (by decide)),if_pos (.inr rfl)]at e;obtain rfl:=oI e;exact⟨f,by rw[mw,dn d];rfl⟩
   ·rw[if_neg (λc=>c.elim (cz d).1 (cz f).1),if_neg (λc=>c.elim (cz d).1 (cz f).1),if_neg (λc=>c.elim (cz d).2 (cz f).2),if_pos rfl]at e;obtain⟨i,j⟩:=pN d f e;exact⟨m3.2 (.inr (.inr i)),by rw[dn d,dn f,dn i,j];rfl⟩
 star:=λ{a c} d e=>by
  unfold lR at e;rw[if_pos rfl]at e;rcases m3.1 d with rfl|rfl|d
  ·rw[if_pos (by decide)]at e;obtain rfl:=oI e;exact⟨by decide,by rfl⟩
  ·rw[if_neg (by decide)]at e;obtain rfl:=oI e;exact⟨by decide,by rfl⟩
  ·have h:=zy d fz;rw[jz]at h;rw[dn d];show _/\_=if 0<=bh a then tg.fin 0 else tg.low;by_cases g:dt a [48]>=0
   ·rw[if_pos g]at e;obtain rfl:=oI e;exact⟨by decide,by rw[if_pos (h.1 g),dn fz,jz]⟩
   ·rw[if_neg g]at e;obtain rfl:=oI e;exact⟨by decide,by rw[if_neg λx=>g (h.2 x),mw]⟩
theorem CB(f:z=2\/z=3){a b:List UInt8}(d:aM z a=true)(c:aM z b=true)(e:k6 a=k6 b):a=b:=by grind[iw,jw,de,wE]
theorem FP(a:z=2\/z=3):aM z di=true:=by grind[iw]
theorem xr(g:z=2\/z=3){a b c:List UInt8}(j:aM z a=true)(k:aM z b=true)(e:dg z a b=some c):aM z c=true/\k6 c=gh.mul (k6 a) (k6 b):=by
 have v:bE z=[48]:=by rcases g with rfl|rfl<;>rfl
 have t:¬z=1:=by omega
 have l:aM z [48]=true:=(iw g).2 (.inr ⟨fz,by rfl⟩);have r:k6 [48] = .fin 0 Rat.le_refl:=by rw[de fz (by rfl)];exact gh.ext jz
 unfold dg at e;rw[v]at e;have w:∀{x:List UInt8},aA x=true->x≠[48]->bh x≠0:=λs u e=>u (wE s fz (by rw[e,jz]));by_cases q:a=[48]
 ·subst q;rw[if_pos (.inl rfl)]at e;obtain rfl:=oI e;exact⟨l,by rw[r];simp[gh.AY]⟩
 by_cases o:b=[48]
 ·subst o;rw[if_pos (.inr rfl)]at e;obtain rfl:=oI e;exact⟨l,by rw[gh.Gh,r];simp[gh.AY]⟩
 rw[if_neg (λx=>x.elim q o)]at e;rcases(iw g).1 j with rfl|⟨f,h⟩<;>rcases(iw g).1 k with rfl|⟨d,i⟩
 ·rw[if_pos (.inl rfl)]at e;obtain rfl:=oI e;exact⟨j,by rfl⟩
 ·rw[if_pos (.inl rfl)]at e;obtain rfl:=oI e;refine⟨j,?_⟩;rw[jw,de d i];show _=if bh b=0 then _ else _
  grind
 ·rw[if_pos (.inr rfl)]at e;obtain rfl:=oI e;refine⟨k,?_⟩;rw[jw,de f h];show _=if bh a=0 then _ else _
  grind
 ·rw[if_neg (λc=>c.elim (cz f).1 (cz d).1),if_neg (λc=>c.elim (cz f).2 (cz d).2),if_neg t]at e;obtain⟨n,m⟩:=Jf f d e;have p:0<=bh c:=by rw[m];exact Rat.mul_nonneg h i
  refine⟨(iw g).2 (.inr ⟨n,p⟩),?_⟩;rw[de f h,de d i,de n p];exact gh.ext m
theorem A0:k6 [48]=gh.S.zero:=by rfl
theorem CC:k6 [49]=gh.S.one:=by rfl
theorem qQ(b:z=2\/z=3){a:List UInt8}(h:aA a=true)(c:0<=bh a):aM z a=true:=by grind[iw]
theorem qP(a:z=2\/z=3):aM z [49]=true:=qQ a fF (by rfl)
theorem aaP:pM gh.S k6 2 where
 zero:=A0
 one:=CC
 inj:=CB (.inl rfl)
 times:=xr (.inl rfl)
 plus:=λ{a b c} k o e=>by
  unfold eM at e;rw[if_neg (by decide)]at e;rcases(iw (.inl rfl)).1 k with rfl|⟨f,l⟩
  ·rw[if_pos (.inl rfl)]at e;obtain rfl:=oI e;exact⟨k,by rfl⟩
  rcases(iw (.inl rfl)).1 o with rfl|⟨m,q⟩
  ·rw[if_pos (.inr rfl)]at e;obtain rfl:=oI e;exact⟨o,by rw[jw];cases k6 a<;>rfl⟩
  rw[if_neg (λc=>c.elim (cz f).1 (cz m).1)]at e;obtain⟨j,i⟩:=pN f m e;have n:0<=bh c:=by rw[i];exact Rat.add_nonneg l q
  refine⟨qQ (.inl rfl) j n,?_⟩;rw[de f l,de m q,de j n];exact gh.ext i
 star:=λ{a c} k e=>by
  unfold lR at e;rw[if_neg (by decide),if_neg (by decide)]at e;rcases(iw (.inl rfl)).1 k with rfl|⟨f,l⟩
  ·rw[if_pos (by decide)]at e;obtain rfl:=oI e;exact⟨k,by rfl⟩
  have h:=zy f fF;rw[lb]at h;rw[de f l];show _/\_=if h:bh a<1 then gh.fin (1-bh a)⁻¹ _ else gh.inf;by_cases g:dt a [49]>=0
  ·rw[if_pos g]at e;obtain rfl:=oI e
   simp_all[FP,Rat.not_lt,jw]
  ·rw[if_neg g]at e;have u:bh a<1:=Rat.not_le.1 λx=>g (h.2 x);rw[dif_pos u]
   cases p:qp [49] (qq a)with
   |none=>grind
   | some d=>
    rw[p]at e;dsimp only at e;obtain⟨s,t⟩:=uM f;obtain⟨j,i⟩:=pN fF s p;rw[t,lb]at i;have r:bh d=1-bh a:=by rw[i,Rat.sub_eq_add_neg]
    have v:val (numOf d)≠0:=λe=>by
     have:=(aZ.1 j).wT;rw[e,rC]at this;have:=Rat.num_eq_zero.1 this;rw[r]at this
     grind
    obtain⟨n,w⟩:=I9 fF j v e;rw[lb,Rat.one_mul,r]at w
    grind[qQ,de]
theorem aaR:pM gh.V k6 3 where
 zero:=A0
 one:=CC
 inj:=CB (.inr rfl)
 times:=xr (.inr rfl)
 plus:=λ{a b c} j l e=>by
  have e:some (if dt a b<0 then b else a)=some c:=e;obtain rfl:=oI e;refine⟨by grind,?_⟩;rcases(iw (.inr rfl)).1 j with rfl|⟨d,i⟩<;>rcases(iw (.inr rfl)).1 l with rfl|⟨f,k⟩
  ·rfl
  ·have:dt di b=1:=by unfold dt;rw[if_neg (λe=>(cz f).1 e.symm),if_neg (λc=>c.elim (by decide) (cz f).1),if_pos (.inl rfl)]
   rw[this,if_neg (by omega),jw];rfl
  ·have:dt a di = -1:=by unfold dt;rw[if_neg (cz d).1,if_pos (.inr rfl)]
   rw[this,if_pos (by omega),jw];cases k6 a<;>rfl
  ·have h:=(rp d f).1;rw[de d i,de f k];show _=gh.fin (if bh a<=bh b then bh b else bh a) _;by_cases c:dt a b<0
   ·rw[if_pos c,de f k]
    grind
   ·rw[if_neg c,de d i]
    grind
 star:=λ{a c} j e=>by
  unfold lR at e;rw[if_neg (by decide),if_pos rfl]at e;rcases(iw (.inr rfl)).1 j with rfl|⟨d,i⟩
  ·rw[if_neg (by decide)]at e;obtain rfl:=oI e;exact⟨j,by rfl⟩
  have h:=Pg d fF;rw[lb]at h;rw[de d i];show _/\_=if bh a<=1 then gh.fin 1 _ else gh.inf;by_cases g:dt a [49]<=0
  ·rw[if_pos g]at e;obtain rfl:=oI e;exact⟨qP (.inr rfl),by rw[if_pos (h.1 g),de fF (by rw[lb];decide)];rfl⟩
  ·rw[if_neg g]at e;obtain rfl:=oI e
   simp_all[FP,jw]
theorem xx{kind:Int}(h:1<=kind/\kind<=3):∃(K:Type)(S:aN K)(a:List UInt8->K),pM S a kind:=by
 obtain rfl|rfl|rfl:kind=1\/kind=2\/kind=3:=by omega
 all_goals grind[aaQ,aaP,aaR]
section
structure qn(α:Type) where
 zero:α
 one:α
 yj:α->Bool
 plus:α->α->Option α
 times:α->α->Option α
 star:α->Option α
def bg{β:Type}(f:β->Nat->Option β):Nat->Nat->β->Option β
 |0,_,b=>some b
 |k+1,i,b=>match f b i with
  |some a=>bg f k (i+1) a
  |none=>none
structure ju(α:Type) where
 i:Int
 o:Int
 w:α
 t:Nat
structure I0(α:Type) where
 fin:Option α
 arcs:List (ju α)
structure gr(α:Type) where
 lead:α
 start:Nat
 bJ:List (I0 α)
section
variable {α:Type} (O:qn α)
def gK(l:List α)(t:Nat)(a b:α):Option (List α):=match O.times a b with
 |none=>none
 |some p=>match O.plus (l.getD t O.zero) p with
  |none=>none
  |some s=>some (l.set t s)
def bw(n:Nat):List α:=List.replicate n O.zero
def ck:ju α:=⟨0,0,O.zero,0⟩
def dN:I0 α:=⟨none,[]⟩
def jV(i o:Int)(u:α)(a:List (ju α))(l:List α)(k:Nat):Option (List α):=
 if(a.getD k (ck O)).i≠i\/(a.getD k (ck O)).o≠o then some l else gK O l (a.getD k (ck O)).t u (a.getD k (ck O)).w
def qO(M:gr α)(v:List α)(i o:Int)(l:List α)(q:Nat):Option (List α):=
 if O.yj (v.getD q O.zero)then some l else bg (jV O i o (v.getD q O.zero) (M.bJ.getD q dN).arcs) (M.bJ.getD q dN).arcs.length 0 l
def kU(M:gr α)(v:List α)(i o:Int):Option (List α):=bg (qO O M v i o) M.bJ.length 0 (bw O M.bJ.length)
def xz(a b:List α)(l:List α)(i:Nat):Option (List α):=match O.plus (a.getD i O.zero) (b.getD i O.zero)with
 |none=>none
 |some s=>some (l++[s])
def nG(a b:List α):Option (List α):=bg (xz O a b) a.length 0 []
def ff(a:List (ju α))(l:List α)(k:Nat):Option (List α):=
 if(a.getD k (ck O)).i≠0\/(a.getD k (ck O)).o≠0 then some l else match O.plus (l.getD (a.getD k (ck O)).t O.zero) (a.getD k (ck O)).w with
  |none=>none
  |some s=>some (l.set (a.getD k (ck O)).t s)
def gT(M:gr α)(A:List (List α))(q:Nat):Option (List (List α)):=match bg (ff O (M.bJ.getD q dN).arcs) (M.bJ.getD q dN).arcs.length 0 (bw O M.bJ.length)with
 |none=>none
 |some r=>some (A++[r])
def oP(M:gr α):Bool:=M.bJ.any λs=>s.arcs.any λa=>decide (a.i=0)&&decide (a.o=0)
def bT(B:List (List α))(i j:Nat):α:=(B.getD i []).getD j O.zero
def cw(B:List (List α))(s:α)(k i:Nat)(r:List α)(j:Nat):Option (List α):=
 if O.yj (bT O B i k)||O.yj (bT O B k j)then some (r++[bT O B i j])else match O.times (bT O B i k) s with
  |none=>none
  | some p=>match O.times p (bT O B k j)with
   |none=>none
   |some a=>match O.plus (bT O B i j) a with
    |none=>none
    |some c=>some (r++[c])
def iW(B:List (List α))(s:α)(k:Nat)(C:List (List α))(i:Nat):Option (List (List α)):=match bg (cw O B s k i) B.length 0 []with
 |none=>none
 |some r=>some (C++[r])
def ft(B:List (List α))(k:Nat):Option (List (List α)):=match O.star (bT O B k k)with
 |none=>none
 |some s=>bg (iW O B s k) B.length 0 []
def oc(B:List (List α))(i:Nat):Option (List (List α)):=match O.plus O.one (bT O B i i)with
 |none=>none
 |some s=>some (B.set i ((B.getD i []).set i s))
def jU(A:List (List α)):Option (List (List α)):=match bg (ft O) A.length 0 A with
 |none=>none
 |some B=>bg (oc O) A.length 0 B
def dW(M:gr α):Option (Option (List (List α))):=match bg (gT O M) M.bJ.length 0 []with
 |none=>none
 | some A=>if oP M then(if 60<M.bJ.length then none else match jU O A with
   |none=>none
   |some B=>some (some B))else some none
def fR(v:List α)(B:List (List α))(q:Nat)(l:List α)(p:Nat):Option (List α):=
 if O.yj (v.getD q O.zero)||O.yj (bT O B q p)then some l else gK O l p (v.getD q O.zero) (bT O B q p)
def ga(v:List α):Option (List (List α))->Option (List α)
 |none=>some v
 |some B=>bg (λl q=>bg (fR O v B q) v.length 0 l) v.length 0 (bw O v.length)
def jS(M:gr α)(v:List α)(l:List α)(q:Nat):Option (List α):=match (M.bJ.getD q dN).fin with
 |none=>some l
 |some f=>gK O l 0 (v.getD q O.zero) f
def oS(M:gr α)(v:List α):Option α:=match bg (jS O M v) v.length 0 [O.zero]with
 |none=>none
 |some l=>some (l.getD 0 O.zero)
def dM(T:List (List (List α)))(i j:Nat):List α:=(T.getD i []).getD j []
def fu(T:List (List (List α)))(i j:Nat)(v:List α):List (List (List α)):=T.set i ((T.getD i []).set j v)
def bO(x:List Int)(i b:Nat):Int:=if b=1 then x.getD i 0 else 0
def oU(M:gr α)(x y:List Int)(v:List α)(i j:Nat)(T:List (List (List α)))(k:Nat):Option (List (List (List α))):=
 if x.length<i+k%2\/y.length<j+k/2 then some T else match kU O M v (bO x i (k%2)) (bO y j (k/2))with
  |none=>none
  |some s=>match nG O (dM T (i+k%2) (j+k/2)) s with
   |none=>none
   |some r=>some (fu T (i+k%2) (j+k/2) r)
def mZ(M:gr α)(B:Option (List (List α)))(x y:List Int)(i:Nat)(T:List (List (List α)))(j:Nat):Option (List (List (List α))):=match ga O (dM T i j) B with
 |none=>none
 |some v=>bg (oU O M x y v i j) 3 1 (fu T i j v)
def rB(M:gr α)(B:Option (List (List α)))(x y:List Int)(T:List (List (List α)))(i:Nat):Option (List (List (List α))):=bg (mZ O M B x y i) (y.length+1) 0 T
def kn(M:gr α)(x y:List Int):List (List (List α)):=fu (List.replicate (x.length+1) (List.replicate (y.length+1) (bw O M.bJ.length))) 0 0 ((bw O M.bJ.length).set M.start M.lead)
def eF(M:gr α)(x y:List Int):Option α:=match dW O M with
 |none=>none
 |some B=>match bg (rB O M B x y) (x.length+1) 0 (kn O M x y)with
  |none=>none
  |some T=>oS O M (dM T x.length y.length)
end
structure G6{α β:Type}(O:qn α)(P:qn β)(V:α->Prop)(h:α->β):Prop where
 zero:V O.zero/\h O.zero=P.zero
 one:V O.one/\h O.one=P.one
 yj:∀{a},V a->P.yj (h a)=O.yj a
 plus:∀{a b c},V a->V b->O.plus a b=some c->V c/\P.plus (h a) (h b)=some (h c)
 times:∀{a b c},V a->V b->O.times a b=some c->V c/\P.times (h a) (h b)=some (h c)
 star:∀{a c},V a->O.star a=some c->V c/\P.star (h a)=some (h c)
theorem eE{β j:Type}{H:β->j}{VB:β->Prop}{f:β->Nat->Option β}{g:j->Nat->Option j}(l:∀b i a,VB b->f b i=some a->VB a/\g (H b) i=some (H a)):∀(k i:Nat)(b a:β),VB b->bg f k i b=some a->VB a/\bg g k i (H b)=some (H a)
 |0,i,b,a,d,h=>by
  obtain rfl:=oI h;exact⟨d,rfl⟩
 | k+1,i,b,a,d,h=>by
  unfold bg at h⊢
  cases e:f b i with
  |none=>grind
  |some c=>
   rw[e]at h;obtain⟨m,n⟩:=l b i c d e;rw[n];exact eE l k (i+1) c a m h
def mapA{α β:Type}(h:α->β)(a:ju α):ju β:=⟨a.i,a.o,h a.w,a.t⟩
def nF{α β:Type}(h:α->β)(s:I0 α):I0 β:=⟨s.fin.map h,s.arcs.map (mapA h)⟩
def mapM{α β:Type}(h:α->β)(M:gr α):gr β:=⟨h M.lead,M.start,M.bJ.map (nF h)⟩
def bq{α:Type}(V:α->Prop)(l:List α):Prop:=∀a∈l,V a
structure Cv{α:Type}(V:α->Prop)(M:gr α):Prop where
 lead:V M.lead
 fin:∀s∈M.bJ,∀f,s.fin=some f->V f
 w:∀s∈M.bJ,∀a∈s.arcs,V a.w
section
variable {α β:Type} {O:qn α} {P:qn β} {V:α->Prop} {h:α->β}
theorem tz(l:List α)(i:Nat)(d:α):(l.map h).getD i (h d)=h (l.getD i d):=by grind
theorem oT{l:List α}(b:bq V l){d:α}(c:V d)(i:Nat):V (l.getD i d):=by
 rw[gD]
 cases e:l[i]? with
 |none=>grind
 |some a=>exact b a (List.mem_of_getElem? e)
theorem bq.set{l:List α}(b:bq V l){a:α}(d:V a)(i:Nat):bq V (l.set i a):=λx c=>by
 rcases List.mem_or_eq_of_mem_set c with h|h
 ·exact b x h
 grind
theorem bq.snoc{l:List α}(b:bq V l){a:α}(d:V a):bq V (l++[a]):=λx c=>by
 rcases mem_append.1 c with h|h
 ·exact b x h
 grind
theorem bq.rep{a:α}(c:V a)(n:Nat):bq V (List.replicate n a):=λx b=>by grind
variable (H:G6 O P V h)
include H
theorem G6.getD(l:List α)(i:Nat):(l.map h).getD i P.zero=h (l.getD i O.zero):=by rw[<-H.zero.2];grind
theorem G6.at_{l:List α}(a:bq V l)(i:Nat):V (l.getD i O.zero):=oT a H.zero.1 i
theorem wv{l c:List α}{a b:α}{t:Nat}(f:bq V l)(n:V a)(i:V b)(e:gK O l t a b=some c):bq V c/\gK P (l.map h) t (h a) (h b)=some (c.map h):=by
 unfold gK at e⊢
 cases d:O.times a b with
 |none=>grind
 | some p=>
  rw[d]at e;obtain⟨k,m⟩:=H.times n i d;rw[m];dsimp only at e⊢;rw[H.getD]
  cases g:O.plus (l.getD t O.zero) p with
  |none=>grind
  |some s=>
   rw[g]at e;obtain⟨j,o⟩:=H.plus (H.at_ f t) k g;obtain rfl:=oI e;rw[o];exact⟨f.set j t,by simp⟩
theorem Cx(a:List (ju α))(k:Nat):(a.map (mapA h)).getD k (ck P)=mapA h (a.getD k (ck O)):=by
 have:ck P=mapA h (ck O):=by unfold ck mapA;rw[H.zero.2]
 grind
theorem Ob{b:List (ju α)}(c:∀a∈b,V a.w)(k:Nat):V (b.getD k (ck O)).w:=
 oT (V:=λ(a:ju α)=>V a.w) c (by unfold ck;exact H.zero.1) k
theorem EU{i o:Int}{u:α}{b:List (ju α)}(g:V u)(j:∀a∈b,V a.w)(l:List α)(k:Nat)(d:List α)(f:bq V l)(e:jV O i o u b l k=some d):bq V d/\jV P i o (h u) (b.map (mapA h)) (l.map h) k=some (d.map h):=by
 unfold jV at e⊢;rw[Cx H];show bq V d/\(if(b.getD k (ck O)).i≠i\/(b.getD k (ck O)).o≠o then some (l.map h)else gK P (l.map h) (b.getD k (ck O)).t (h u) (h (b.getD k (ck O)).w))=some (d.map h);split at e
 ·grind
 ·next c=>rw[if_neg c];grind[wv,Ob]
omit H in
theorem zD(M:gr α)(q:Nat):(mapM h M).bJ.getD q dN=nF h (M.bJ.getD q dN):=tz (h:=nF h) M.bJ q dN
omit H in
theorem tC{M:gr α}(q:Nat):M.bJ.getD q dN=dN\/M.bJ.getD q dN∈M.bJ:=by grind
omit H in
theorem SK{M:gr α}(c:Cv V M)(q:Nat):∀a∈(M.bJ.getD q dN).arcs,V a.w:=λa b=>by
 rcases tC (M:=M) q with e|e
 ·rw[e]at b;cases b
 ·exact c.w _ e a b
omit H in
theorem XE{M:gr α}(b:Cv V M)(q:Nat){f:α}(a:(M.bJ.getD q dN).fin=some f):V f:=by
 rcases tC (M:=M) q with e|e
 ·rw[e]at a;cases a
 ·exact b.fin _ e f a
theorem pP(n:Nat):bq V (bw O n)/\(bw O n).map h=bw P n:=⟨bq.rep H.zero.1 n,by unfold bw;rw[List.map_replicate,H.zero.2]⟩
theorem Jm{M:gr α}(j:Cv V M){v b:List α}{i o:Int}(d:bq V v)(e:kU O M v i o=some b):bq V b/\kU P (mapM h M) (v.map h) i o=some (b.map h):=by
 unfold kU at e⊢;have f:=pP H M.bJ.length;have a:(mapM h M).bJ.length=M.bJ.length:=lM _;rw[a,<-f.2];refine eE (VB:=bq V) (H:=List.map h) (λl q k g e=>?_) _ _ _ _ f.1 e;unfold qO at e⊢;rw[H.getD,zD,H.yj (H.at_ d q)];split at e
 ·grind
 ·next c=>
  rw[if_neg c];have a:(nF h (M.bJ.getD q dN)).arcs.length=(M.bJ.getD q dN).arcs.length:=lM _;rw[a];exact eE (VB:=bq V) (H:=List.map h) (EU H (H.at_ d q) (SK j q)) _ _ _ _ g e
theorem Ma{a b c:List α}(k:bq V a)(f:bq V b)(e:nG O a b=some c):bq V c/\nG P (a.map h) (b.map h)=some (c.map h):=by
 unfold nG at e⊢;rw[lM];refine eE (VB:=bq V) (H:=List.map h) (λl q m g e=>?_) _ _ _ _ (λx n=>by grind) e;unfold xz at e⊢;rw[H.getD,H.getD]
 cases d:O.plus (a.getD q O.zero) (b.getD q O.zero)with
 |none=>grind
 |some s=>
  rw[d]at e;obtain⟨i,j⟩:=H.plus (H.at_ k q) (H.at_ f q) d;obtain rfl:=oI e;rw[j];exact⟨g.snoc i,by grind⟩
theorem oE(B:List (List α))(i j:Nat):bT P (B.map (List.map h)) i j=h (bT O B i j):=by
 unfold bT;have:(B.map (List.map h)).getD i []=(B.getD i []).map h:=tz (h:=List.map h) B i [];rw[this,H.getD]
theorem mY{B:List (List α)}(a:bq (bq V) B)(i j:Nat):V (bT O B i j):=H.at_ (oT a (λx b=>by grind) i) j
theorem Hf{M:gr α}(vm:Cv V M){r:Option (List (List α))}(e:dW O M=some r):(∀B,r=some B->bq (bq V) B)/\dW P (mapM h M)=some (r.map (List.map (List.map h))):=by
 unfold dW at e⊢;have I:(mapM h M).bJ.length=M.bJ.length:=lM _;rw[I]
 cases J:bg (gT O M) M.bJ.length 0 []with
 |none=>grind
 | some A=>
  rw[J]at e;obtain⟨h1,t⟩:=eE (VB:=bq (bq V)) (H:=List.map (List.map h)) (g:=gT P (mapM h M)) (λA q A' hA e=>by
   unfold gT at e⊢;have R:=pP H M.bJ.length;rw[zD,I,<-R.2];have K:(nF h (M.bJ.getD q dN)).arcs.length=(M.bJ.getD q dN).arcs.length:=lM _;rw[K]
   cases y:bg (ff O (M.bJ.getD q dN).arcs) (M.bJ.getD q dN).arcs.length 0 (bw O M.bJ.length)with
   |none=>rw[y]at e;cases e
   | some r=>
    rw[y]at e;obtain rfl:=oI e;obtain⟨Y,h4⟩:=eE (VB:=bq V) (H:=List.map h) (g:=ff P (nF h (M.bJ.getD q dN)).arcs) (λl k l' o e=>by
     unfold ff at e⊢;show _/\(if(((M.bJ.getD q dN).arcs.map (mapA h)).getD k (ck P)).i≠0\/(((M.bJ.getD q dN).arcs.map (mapA h)).getD k (ck P)).o≠0 then some (l.map h)else match P.plus ((l.map h).getD (((M.bJ.getD q dN).arcs.map (mapA h)).getD k (ck P)).t P.zero) (((M.bJ.getD q dN).arcs.map (mapA h)).getD k (ck P)).w with
      |none=>none
      |some s=>some ((l.map h).set (((M.bJ.getD q dN).arcs.map (mapA h)).getD k (ck P)).t s))=_
     rw[Cx H];have hw:=Ob H (SK vm q) k;generalize (M.bJ.getD q dN).arcs.getD k (ck O)=c at*;show _/\(if c.i≠0\/c.o≠0 then some (l.map h)else match P.plus ((l.map h).getD c.t P.zero) (h c.w)with
      |none=>none
      |some s=>some ((l.map h).set c.t s))=_
     split at e
     ·next g=>rw[if_pos g];obtain rfl:=oI e;exact⟨o,rfl⟩
     ·next g=>
      rw[if_neg g,H.getD]
      cases a:O.plus (l.getD c.t O.zero) c.w with
      |none=>rw[a]at e;cases e
      |some s=>
       rw[a]at e;obtain⟨F,z⟩:=H.plus (H.at_ o c.t) hw a;obtain rfl:=oI e;rw[z];exact⟨o.set F _,by rw[map_set]⟩) _ _ _ _ R.1 y
    rw[h4];exact⟨hA.snoc Y,by rw[map_append];rfl⟩) _ _ _ _ (λx d=>by cases d) J
  have t:bg (gT P (mapM h M)) M.bJ.length 0 []=some (A.map (List.map h)):=t;rw[t];dsimp only at e⊢;have ha:oP (mapM h M)=oP M:=by
   unfold oP;show(M.bJ.map (nF h)).any _=_;rw[List.any_map];congr 1;funext s;show((s.arcs.map (mapA h)).any _)=_;rw[List.any_map];rfl
  rw[ha];split at e
  ·next c=>
   rw[if_pos c];split at e
   ·cases e
   ·next c2=>
    rw[if_neg c2]
    cases a:jU O A with
    |none=>rw[a]at e;cases e
    | some B=>
     rw[a]at e;obtain rfl:=oI e;have m:bq (bq V) B/\jU P (A.map (List.map h))=some (B.map (List.map h)):=by
      unfold jU at a⊢;rw[lM]
      cases u:bg (ft O) A.length 0 A with
      |none=>rw[u]at a;cases a
      | some C=>
       rw[u]at a;obtain⟨F,z⟩:=eE (VB:=bq (bq V)) (H:=List.map (List.map h)) (g:=ft P) (λB k S b e=>by
        unfold ft at e⊢;rw[oE H,lM]
        cases E:O.star (bT O B k k)with
        |none=>rw[E]at e;cases e
        | some s=>
         rw[E]at e;obtain⟨h7,h8⟩:=H.star (mY H b k k) E;rw[h8];refine eE (VB:=bq (bq V)) (H:=List.map (List.map h)) (λC i C' W e=>?_) _ _ _ _ (λx d=>by cases d) e;unfold iW at e⊢;rw[lM]
         cases w:bg (cw O B s k i) B.length 0 []with
         |none=>rw[w]at e;cases e
         | some r=>
          rw[w]at e;obtain rfl:=oI e;obtain⟨h9,f⟩:=eE (VB:=bq V) (H:=List.map h) (g:=cw P (B.map (List.map h)) (h s) k i) (λr j r' T e=>by
           unfold cw at e⊢;rw[oE H,oE H,oE H,H.yj (mY H b i k),H.yj (mY H b k j)];split at e
           ·next g=>rw[if_pos g];obtain rfl:=oI e;exact⟨T.snoc (mY H b i j),by rw[map_append];rfl⟩
           ·next g=>
            rw[if_neg g]
            cases D:O.times (bT O B i k) s with
            |none=>rw[D]at e;cases e
            | some p=>
             rw[D]at e;obtain⟨Z,U⟩:=H.times (mY H b i k) h7 D;rw[U];dsimp only at e⊢
             cases n:O.times p (bT O B k j)with
             |none=>rw[n]at e;cases e
             | some X=>
              rw[n]at e;obtain⟨u3,u4⟩:=H.times Z (mY H b k j) n;rw[u4];dsimp only at e⊢
              cases v:O.plus (bT O B i j) X with
              |none=>rw[v]at e;cases e
              |some c=>
               rw[v]at e;obtain⟨u5,u6⟩:=H.plus (mY H b i j) u3 v;rw[u6];obtain rfl:=oI e;exact⟨T.snoc u5,by rw[map_append];rfl⟩) _ _ _ _ (λx d=>by cases d) w
          have f:bg (cw P (B.map (List.map h)) (h s) k i) B.length 0 []=some (r.map h):=f;rw[f];exact⟨W.snoc h9,by rw[map_append];rfl⟩) _ _ _ _ h1 u
       rw[z];dsimp only at a⊢;refine eE (VB:=bq (bq V)) (H:=List.map (List.map h)) (λB i S b e=>?_) _ _ _ _ F a;unfold oc at e⊢;rw[oE H,<-H.one.2]
       cases G:O.plus O.one (bT O B i i)with
       |none=>rw[G]at e;cases e
       |some s=>
        rw[G]at e;obtain⟨N,Q⟩:=H.plus H.one.1 (mY H b i i) G;rw[Q];obtain rfl:=oI e;have hg:(B.map (List.map h)).getD i []=(B.getD i []).map h:=tz (h:=List.map h) B i [];have L:bq V (B.getD i []):=oT b (λx d=>by cases d) i;exact⟨bq.set (V:=bq V) b (L.set N i) i,by rw[map_set,hg,map_set]⟩
     rw[m.2];exact⟨λS e=>by obtain rfl:=oI e;exact m.1,rfl⟩
  grind
theorem L5{v d:List α}(b:bq V v){B:Option (List (List α))}(a:∀C,B=some C->bq (bq V) C)(e:ga O v B=some d):bq V d/\ga P (v.map h) (B.map (List.map (List.map h)))=some (d.map h):=by
 cases B with
 |none=>obtain rfl:=oI e;exact⟨b,rfl⟩
 |some B=>
  have a:=a B rfl;have i:=pP H v.length;show _/\bg (λl q=>bg (fR P (v.map h) (B.map (List.map h)) q) (v.map h).length 0 l) (v.map h).length 0 (bw P (v.map h).length)=_;rw[lM,<-i.2];refine eE (VB:=bq V) (H:=List.map h) (λl q f c e=>?_) _ _ _ _ i.1 e;refine eE (VB:=bq V) (H:=List.map h) (λl p f c e=>?_) _ _ _ _ c e;unfold fR at e⊢;rw[H.getD,oE H,H.yj (H.at_ b q),H.yj (mY H a q p)];split at e
  ·grind
  ·next g=>rw[if_neg g];exact wv H c (H.at_ b q) (mY H a q p) e
theorem Pm{M:gr α}(n:Cv V M){v:List α}{c:α}(i:bq V v)(e:oS O M v=some c):V c/\oS P (mapM h M) (v.map h)=some (h c):=by
 unfold oS at e⊢;rw[lM]
 cases b:bg (jS O M v) v.length 0 [O.zero]with
 |none=>grind
 | some l=>
  rw[b]at e;obtain rfl:=oI e;obtain⟨m,a⟩:=eE (VB:=bq V) (H:=List.map h) (g:=jS P (mapM h M) (v.map h)) (λl q o j e=>by
   unfold jS at e⊢;rw[zD,H.getD];show _/\(match (M.bJ.getD q dN).fin.map h with|none=>some (l.map h)|some f=>gK P (l.map h) 0 (h (v.getD q O.zero)) f)=_
   cases d:(M.bJ.getD q dN).fin with
   |none=>grind
   |some f=>rw[d]at e;exact wv H j (H.at_ i q) (XE n q d) e) _ _ _ _ (λx k=>by rw[mem_singleton.1 k];exact H.zero.1) b
  have a:bg (jS P (mapM h M) (v.map h)) v.length 0 [h O.zero]=some (l.map h):=a;rw[H.zero.2]at a;rw[a];dsimp only;rw[H.getD];exact⟨H.at_ m 0,rfl⟩
omit H in
theorem zx(T:List (List (List α)))(i j:Nat):dM (T.map (List.map (List.map h))) i j=(dM T i j).map h:=by grind[dM]
omit H in
theorem wF(T:List (List (List α)))(i j:Nat)(v:List α):fu (T.map (List.map (List.map h))) i j (v.map h)=(fu T i j v).map (List.map (List.map h)):=by grind[map_set,fu]
omit H in
theorem Ha{T:List (List (List α))}(b:bq (bq (bq V)) T)(i j:Nat):bq V (dM T i j):=
 oT (V:=bq V) (oT (V:=bq (bq V)) b (λx a=>by grind) i) (λx a=>by grind) j
omit H in
theorem CN{T:List (List (List α))}(a:bq (bq (bq V)) T){v:List α}(b:bq V v)(i j:Nat):bq (bq (bq V)) (fu T i j v):=
 bq.set (V:=bq (bq V)) a (bq.set (V:=bq V) (oT (V:=bq (bq V)) a (λx c=>by grind) i) b j) i
theorem Hk{M:gr α}(b:Cv V M){x y:List Int}{w:α}(e:eF O M x y=some w):V w/\eF P (mapM h M) x y=some (h w):=by
 unfold eF at e⊢
 cases m:dW O M with
 |none=>grind
 | some B=>
  rw[m]at e;obtain⟨A,C⟩:=Hf H b m;rw[C];dsimp only at e⊢;have f:=pP H M.bJ.length;have t:(mapM h M).bJ.length=M.bJ.length:=lM _;have u:bq (bq (bq V)) (kn O M x y)/\kn P (mapM h M) x y=(kn O M x y).map (List.map (List.map h)):=by
   unfold kn;refine⟨CN (bq.rep (bq.rep f.1 _) _) (f.1.set b.lead _) 0 0,?_⟩;rw[<-wF,map_set,List.map_replicate,List.map_replicate,f.2,t];rfl
  cases o:bg (rB O M B x y) (x.length+1) 0 (kn O M x y)with
  |none=>grind
  | some T=>
   rw[o]at e;obtain⟨G,I⟩:=eE (VB:=bq (bq (bq V))) (H:=List.map (List.map (List.map h))) (g:=rB P (mapM h M) (B.map (List.map (List.map h))) x y) (λT i n a e=>by
    unfold rB at e⊢;refine eE (VB:=bq (bq (bq V))) (H:=List.map (List.map (List.map h))) (λT j n a e=>?_) _ _ _ _ a e;unfold mZ at e⊢;rw[zx]
    cases c:ga O (dM T i j) B with
    |none=>rw[c]at e;cases e
    | some v=>
     rw[c]at e;obtain⟨q,F⟩:=L5 H (Ha a i j) A c;rw[F];dsimp only at e⊢;rw[wF];refine eE (VB:=bq (bq (bq V))) (H:=List.map (List.map (List.map h))) (λT k n a e=>?_) _ _ _ _ (CN a q i j) e;unfold oU at e⊢;split at e
     ·next g=>rw[if_pos g];obtain rfl:=oI e;exact⟨a,rfl⟩
     ·next g=>
      rw[if_neg g]
      cases d:kU O M v (bO x i (k%2)) (bO y j (k/2))with
      |none=>rw[d]at e;cases e
      | some s=>
       rw[d]at e;obtain⟨D,z⟩:=Jm H b q d;rw[z];dsimp only at e⊢;rw[zx]
       cases l:nG O (dM T (i+k%2) (j+k/2)) s with
       |none=>rw[l]at e;cases e
       |some r=>
        rw[l]at e;obtain⟨E,p⟩:=Ma H (Ha a _ _) D l;rw[p];dsimp only at e⊢;obtain rfl:=oI e;exact⟨CN a E _ _,by rw[wF]⟩) _ _ _ _ u.1 o
   grind[zx,Pm,Ha]
end
end
end Go.Num
end
section
namespace Go.Num
variable{n:Nat}
namespace aN
variable {K:Type} {S:aN K}
def dot(S:aN K)(u v:Nat->K)(n:Nat):K:=S.bS (λi=>S.mul (u i) (v i)) n
theorem NI{a:Nat->Nat->K}{c x:Nat->K}(d:∀i,i<n->S.le (S.add (c i) (S.bS (λj=>S.mul (a i j) (x j)) n)) (x i))
  (e:∀y:Nat->K,(∀i,i<n->S.le (S.add (c i) (S.bS (λj=>S.mul (a i j) (y j)) n)) (y i))->∀i,i<n->S.le (x i) (y i)):∀i,i<n->x i=pF S a n c i:=
 λi b=>S.Ce (e _ (λj _=>le_of_eq (xf a n c j).symm) i b) (vo a d b)
theorem vn{a b:Nat->Nat->K}{c d:Nat->K}(f:∀i j,i<n->j<n->a i j=b i j)(g:∀i,i<n->c i=d i):∀i,i<n->pF S a n c i=pF S b n d i:=by
 refine NI (λi e=>?_) λy h i e=>vo a (λi e=>?_) e
 all_goals grind[le_of_eq,xf,ax]
theorem ZD(a:Nat->Nat->K)(n:Nat)(c d:Nat->K)(i:Nat):pF S a n (λi=>S.add (c i) (d i)) i=S.add (pF S a n c i) (pF S a n d i):=by
 unfold pF;rw[aaW];congr 1;rw[<-gG];exact ax λj _=>S.mul_add _ _ _
theorem ZE(a:Nat->Nat->K)(n:Nat)(k:K)(c:Nat->K)(i:Nat):pF S a n (λi=>S.mul k (c i)) i=S.mul k (pF S a n c i):=by
 unfold pF;rw[S.mul_add];congr 1;rw[<-qh];refine ax λj _=>?_;rw[<-S.mul_assoc,S.mul_comm (elim S a n i j),S.mul_assoc]
end aN
end Go.Num
end
section
namespace Go.Num
variable{p:List Int}
namespace aN
variable {K:Type} {S:aN K}
def fk{b:Type}(S:aN K)(f:b->K):List b->K
 |[]=>S.zero
 |a::l=>S.add (f a) (fk S f l)
theorem eB{b:Type}{f g:b->K}:∀{l:List b},(∀a∈l,f a=g a)->fk S f l=fk S g l
 |[],_=>rfl
 |a::l,h=>by
  show S.add _ _=S.add _ _;rw[h a (mem_cons_self ..),eB λx c=>h x (List.mem_cons_of_mem _ c)]
theorem Eh{b:Type}(f g:b->K):∀l:List b,fk S (λa=>S.add (f a) (g a)) l=S.add (fk S f l) (fk S g l)
 |[]=>(S.zero_add _).symm
 |a::l=>by
  show S.add _ (fk S _ l)=S.add (S.add _ _) (S.add _ _);rw[Eh f g l,aaW]
theorem uD{b:Type}(c:K)(f:b->K):∀l:List b,fk S (λa=>S.mul c (f a)) l=S.mul c (fk S f l)
 |[]=>(mul_zero c).symm
 |a::l=>by
  show S.add _ (fk S _ l)=S.mul c (S.add _ _);rw[uD c f l,S.mul_add]
theorem zi{c:Type}(f:c->K):∀l b:List c,fk S f (l++b)=S.add (fk S f l) (fk S f b)
 |[],b=>(S.zero_add _).symm
 |a::l,b=>by
  show S.add _ (fk S f (l++b))=S.add (S.add _ _) _;rw[zi f l b,S.add_assoc]
theorem rh{a c:Type}(g:c->a)(f:a->K):∀l:List c,fk S f (l.map g)=fk S (λb=>f (g b)) l
 |[]=>rfl
 |b::l=>by
  show S.add _ (fk S f (l.map g))=S.add _ _;rw[rh g f l]
theorem oJ{b:Type}:∀l:List b,fk S (λ_=>S.zero) l=S.zero
 |[]=>rfl
 |a::l=>by
  show S.add _ (fk S _ l)=_;rw[oJ l,S.zero_add]
end aN
structure qo(K:Type) where
 i:Int
 o:Int
 w:K
 t:Nat
structure bN(K:Type) where
 n:Nat
 fin:Nat->K
 arcs:Nat->List (qo K)
def eN(s:Int)(x:List Int):Option (List Int):=if s=0 then some x else match x with
 |[]=>none
 |c::r=>if c=s then some r else none
namespace bN
open aN
variable {K:Type} (S:aN K) (M:bN K)
def EO(q p:Nat):K:=fk S (λa=>if a.i=0/\a.o=0/\a.t=p then a.w else S.zero) (M.arcs q)
def go(W:List Int->List Int->Nat->K)(x y:List Int)(a:qo K):K:=if a.i=0/\a.o=0 then S.zero else match eN a.i x,eN a.o y with
 |some c,some b=>S.mul a.w (W c b a.t)
 |_,_=>S.zero
def tail(W:List Int->List Int->Nat->K)(x y:List Int)(q:Nat):K:=S.add (if x=[]/\y=[]then M.fin q else S.zero) (fk S (go S W x y) (M.arcs q))
def II:Nat->List Int->List Int->Nat->K
 |0,x,y=>pF S (EO S M) M.n (tail S M (λ_ _ _=>S.zero) x y)
 |f+1,x,y=>pF S (EO S M) M.n (tail S M (II f) x y)
def val(x y:List Int):Nat->K:=II S M (x.length+y.length) x y
variable {S M}
theorem Ow{s:Int}{x:List Int}(h:eN s x=some p):p.length+(if s=0 then 0 else 1)=x.length:=by
 unfold eN at h
 grind
theorem go_congr{W d:List Int->List Int->Nat->K}{x:List Int}{a:qo K}(h:∀c b,c.length+b.length<x.length+p.length->W c b a.t=d c b a.t):go S W x p a=go S d x p a:=by
 unfold go;split
 ·rfl
 ·next g=>
  cases e:eN a.i x with
  |none=>rfl
  | some c=>
   cases f:eN a.o p with
   |none=>rfl
   |some b=>
    dsimp only;have i:=Ow e;have j:=Ow f
    grind
theorem sN{W W':List Int->List Int->Nat->K}{x:List Int}(h:∀b a,b.length+a.length<x.length+p.length->W b a=W' b a):tail S M W x p=tail S M W' x p:=by grind[eB,go_congr,tail]
theorem IJ:∀{f g:Nat}{x y:List Int},x.length+y.length<=f->x.length+y.length<=g->II S M f x y=II S M g x y
 |0,0,_,_,_,_=>rfl
 |0,g+1,x,y,h,_=>by grind[sN,II]
 |f+1,0,x,y,_,h=>by grind[sN,II]
 |f+1,g+1,x,y,c,e=>by
  show pF S _ _ (tail S M _ x y)=pF S _ _ (tail S M _ x y);rw[sN (W:=II S M f) (W':=II S M g) λd a b=>IJ (by omega) (by omega)]
theorem IK(x y:List Int):val S M x y=pF S (EO S M) M.n (tail S M (val S M) x y):=by
 have h:val S M x y=II S M (x.length+y.length+1) x y:=IJ (Nat.le_refl _) (Nat.le_succ _);rw[h];show pF S _ _ (tail S M _ x y)=_;rw[sN (W':=val S M) λc a b=>IJ (by omega) (Nat.le_refl _)]
end bN
end Go.Num
end
section
namespace Go.Num
variable{n:Nat}
variable{m:Nat}
namespace aN
variable {K:Type} {S:aN K}
theorem GV{f:Nat->K}(h:∀i,i<n->f i=S.zero):S.bS f n=S.zero:=by grind[ax,dR]
theorem sL(f:Nat->K){a m n:Nat}(h:a+m<=n):S.bS (λj=>if a<=j/\j<a+m then f j else S.zero) n=S.bS (λp=>f (a+p)) m:=by
 rw[oK a (by omega:a<=n),GV (λi b=>by rw[if_neg (by omega)]),S.zero_add];rw[oK m (by omega:m<=n-a)];rw[ax (f:=λi=>if a<=a+i/\a+i<a+m then f (a+i)else S.zero) (g:=λp=>f (a+p)) (n:=m) λi b=>by rw[if_pos (by omega)]];simp[GV,if_neg,add_zero]
theorem ZP(f:Nat->K){a m n:Nat}(h:a+m<=n):S.bS f n=S.add (S.bS (λp=>f (a+p)) m) (S.bS (λj=>if a<=j/\j<a+m then S.zero else f j) n):=by
 rw[<-sL f h,<-gG];refine ax λj _=>?_;by_cases c:a<=j/\j<a+m
 ·rw[if_pos c,if_pos c,add_zero]
 ·rw[if_neg c,if_neg c,S.zero_add]
theorem UZ{a a':Nat->Nat->K}{low:Nat}{c c':Nat->K}(h:low+m<=n)(w:∀q p,q<m->p<m->a (low+q) (low+p)=a' q p)
  (s:∀q,q<m->c' q=S.add (c (low+q)) (S.bS (λj=>if low<=j/\j<low+m then S.zero else S.mul (a (low+q) j) (pF S a n c j)) n)):∀q,q<m->pF S a n c (low+q)=pF S a' m c' q:=by
 have d:∀(y:Nat->K) q,q<m->S.add (c (low+q)) (S.bS (λj=>S.mul (a (low+q) j) (y j)) n)=S.add (S.add (c (low+q)) (S.bS (λj=>if low<=j/\j<low+m then S.zero else S.mul (a (low+q) j) (y j)) n)) (S.bS (λp=>S.mul (a' q p) (y (low+p))) m):=λy q b=>by
  rw[ZP (λj=>S.mul (a (low+q) j) (y j)) h,S.add_assoc];congr 1;rw[S.add_comm]
  grind[ax]
 have g:∀q,q<m->S.le (pF S a' m c' q) (pF S a n c (low+q)):=λq b=>by
  refine vo a' (n:=m) (c:=c') (x:=λq=>pF S a n c (low+q)) (λi k=>?_) b;have u:=d (pF S a n c) i k
  grind[xf,le_of_eq]
 let Y:Nat->K:=λj=>if low<=j/\j<low+m then pF S a' m c' (j-low)else pF S a n c j
 have r:∀j,S.le (Y j) (pF S a n c j):=λj=>by
  by_cases e:low<=j/\j<low+m
  ·grind
  ·show S.le (if _ then _ else _) _;rw[if_neg e];exact S.le_refl _
 intro q b;refine S.Ce ?_ (g q b);have v:=vo (S:=S) a (n:=n) (c:=c) (x:=Y) (λi k=>?_) (i:=low+q) (by omega)
 ·grind
 ·by_cases e:low<=i/\i<low+m
  ·obtain⟨p,rfl⟩:∃p,i=low+p:=⟨i-low,by omega⟩
   have o:p<m:=by omega
   have f:Y (low+p)=pF S a' m c' p:=by
    show(if _ then _ else _)=_;rw[if_pos e,show low+p-low=p by omega]
   rw[d Y p o,f];refine le_of_eq ?_
   conv=>rhs;rw[xf,s p o]
   congr 1
   ·grind
   ·refine ax λl t=>?_
    grind
  ·have f:Y i=pF S a n c i:=by
    show(if _ then _ else _)=_;rw[if_neg e]
   rw[f]
   conv=>rhs;rw[xf]
   exact S.wI (S.le_refl _) (Ws λj _=>S.HV _ (r j))
end aN
end Go.Num
end
section
namespace Go.Num
open aN
variable{p:List Int}
section
variable {K:Type} {S:aN K}
def A6{K:Type}(low:Nat)(a:qo K):qo K:=⟨a.i,a.o,a.w,low+a.t⟩
def SD{K:Type}(t:Nat):Option K->List (qo K)
 |none=>[]
 |some w=>[⟨0,0,w,t⟩]
structure nZ(C A:bN K)(low:Nat)(lv:Nat->Option K)(t:Nat):Prop where
 fit:low+A.n<=C.n
 out:t<C.n/\(t<low\/low+A.n<=t)
 tgt:∀q,q<A.n->∀a∈A.arcs q,a.t<A.n
 arcs:∀q,q<A.n->C.arcs (low+q)=(A.arcs q).map (A6 low)++SD t (lv q)
def xw(S:aN K)(o:Option K):K:=o.getD S.zero
def emp(S:aN K)(x y:List Int)(k:K):K:=if x=[]/\y=[]then k else S.zero
section
variable {C A:bN K} {low t:Nat} {lv:Nat->Option K}
theorem wG(F:qo K->K)(t:Nat)(o:Option K):fk S F (SD t o)=match o with|none=>S.zero|some w=>F ⟨0,0,w,t⟩:=by
 cases o with
 |none=>rfl
 |some w=>exact add_zero _
theorem nZ.abU(b:nZ C A low lv t){q p:Nat}(d:q<A.n)(e:p<A.n):bN.EO S C (low+q) (low+p)=bN.EO S A q p:=by
 unfold bN.EO;rw[b.arcs q d,zi,rh,wG];have c:fk S (λa=>if(A6 low a).i=0/\(A6 low a).o=0/\(A6 low a).t=low+p then(A6 low a).w else S.zero) (A.arcs q)=fk S (λa=>if a.i=0/\a.o=0/\a.t=p then a.w else S.zero) (A.arcs q):=eB λa _=>by
  show(if a.i=0/\a.o=0/\low+a.t=low+p then a.w else S.zero)=_
  grind
 rw[c]
 cases lv q with
 |none=>exact add_zero _
 |some w=>
  dsimp only;rw[if_neg (by have:=b.out;omega),add_zero]
theorem nZ.ZB(b:nZ C A low lv t){q j:Nat}(c:q<A.n)(e:¬(low<=j/\j<low+A.n)):bN.EO S C (low+q) j=if t=j then xw S (lv q)else S.zero:=by
 unfold bN.EO;rw[b.arcs q c,zi,rh,wG];rw[eB (g:=λ_=>S.zero) λa d=>?_,oJ,S.zero_add]
 ·grind[xw]
 ·show(if a.i=0/\a.o=0/\low+a.t=j then a.w else S.zero)=S.zero;rw[if_neg];have:=b.tgt q c a d;omega
theorem nZ.val(b:nZ C A low lv t)(x y:List Int){q:Nat}(d:q<A.n):bN.val S C x y (low+q)=pF S (bN.EO S A) A.n (λq=>S.add (S.add (emp S x y (C.fin (low+q))) (fk S (bN.go S (λh f p=>bN.val S C h f (low+p)) x y) (A.arcs q))) (S.mul (xw S (lv q)) (bN.val S C x y t))) q:=by
 have i:=bN.IK (S:=S) (M:=C) x y;have l:=UZ (S:=S) (a:=bN.EO S C) (a':=bN.EO S A) (n:=C.n) (m:=A.n) (low:=low) (c:=bN.tail S C (bN.val S C) x y) (c':=λq=>S.add (S.add (emp S x y (C.fin (low+q))) (fk S (bN.go S (λh f p=>bN.val S C h f (low+p)) x y) (A.arcs q))) (S.mul (xw S (lv q)) (bN.val S C x y t))) b.fit (λq p d k=>b.abU d k) (λq d=>by
  congr 1
  ·unfold bN.tail emp;congr 1;rw[b.arcs q d,zi,rh,wG];have:(match lv q with|none=>S.zero|some w=>bN.go S (bN.val S C) x y ⟨0,0,w,t⟩)=S.zero:=by
    cases lv q with
    |none=>rfl
    |some w=>exact if_pos ⟨rfl,rfl⟩
   rw[this,add_zero];rfl
  ·rw[i];rw[ax (g:=λj=>if t<=j/\j<t+1 then S.mul (xw S (lv q)) (pF S (bN.EO S C) C.n (bN.tail S C (bN.val S C) x y) j)else S.zero) λj _=>by
    by_cases c:low<=j/\j<low+A.n
    ·rw[if_pos c,if_neg (by have:=b.out;omega)]
    ·rw[if_neg c,b.ZB d c];by_cases e:t=j
     ·rw[if_pos e,if_pos (by omega)]
     ·rw[if_neg e,if_neg (by omega),S.zero_mul]]
   rw[sL (λj=>S.mul (xw S (lv q)) (pF S (bN.EO S C) C.n (bN.tail S C (bN.val S C) x y) j)) (by have:=b.out;omega:t+1<=C.n)];exact(S.zero_add _).symm) q d
 simp_all
end
def eK(S:aN K)(F:List Int->List Int->List Int->List Int->K)(x y:List Int):K:=S.bS (λi=>S.bS (λj=>F (x.take i) (y.take j) (x.drop i) (y.drop j)) (y.length+1)) (x.length+1)
def conv(S:aN K)(A:bN K)(V:List Int->List Int->K)(x y:List Int)(q:Nat):K:=eK S (λd c b a=>S.mul (bN.val S A d c q) (V b a)) x y
theorem rq{F G:List Int->List Int->List Int->List Int->K}{x:List Int}(h:∀i j,i<=x.length->j<=p.length->F (x.take i) (p.take j) (x.drop i) (p.drop j)=G (x.take i) (p.take j) (x.drop i) (p.drop j)):eK S F x p=eK S G x p:=ax λi a=>ax λj b=>h i j (by omega) (by omega)
theorem CE(F G:List Int->List Int->List Int->List Int->K)(x y:List Int):eK S (λa b c d=>S.add (F a b c d) (G a b c d)) x y=S.add (eK S F x y) (eK S G x y):=by grind[gG,ax,eK]
theorem LW(k:K)(F:List Int->List Int->List Int->List Int->K)(x y:List Int):eK S (λa b c d=>S.mul k (F a b c d)) x y=S.mul k (eK S F x y):=by grind[qh,eK]
theorem rF(f:Nat->K)(n:Nat):S.bS f (n+1)=S.add (f 0) (S.bS (λi=>f (i+1)) n):=by
 rw[oK (S:=S) 1 (n:=n+1) (by omega)];show S.add (S.add S.zero (f 0)) (S.bS _ n)=_;rw[S.zero_add]
 grind
theorem A2{F:List Int->List Int->List Int->List Int->K}{x:List Int}(h:∀i j,i<=x.length->j<=p.length->F (x.take i) (p.take j) (x.drop i) (p.drop j)=S.zero):eK S F x p=S.zero:=by grind[ax,dR,eK]
theorem LU(F:List Int->List Int->List Int->List Int->K)(x y:List Int):eK S (λa b c d=>if a=[]/\b=[]then F a b c d else S.zero) x y=F [] [] x y:=by
 unfold eK;rw[rF,rF];have e:∀i j,i<x.length->j<y.length+1->(if x.take (i+1)=[]/\y.take j=[]then F (x.take (i+1)) (y.take j) (x.drop (i+1)) (y.drop j)else S.zero)=S.zero:=λi j f _=>if_neg λh=>by
  have:=congrArg List.length h.1;rw[length_take]at this;have:min (i+1) x.length=0:=this;omega
 rw[ax (n:=x.length) (g:=λ_=>S.zero) λi f=>(ax λj k=>e i j f k).trans (dR _),dR,add_zero];rw[ax (n:=y.length) (g:=λ_=>S.zero) λj k=>if_neg λh=>by
  have:=congrArg List.length h.2;rw[length_take]at this;have:min (j+1) y.length=0:=this;omega]
 simp_all[dR,add_zero]
theorem CH{s:Int}(a:s≠0)(x:List Int)(i:Nat):eN s (x.take (i+1))=(eN s x).map (·.take i):=by
 unfold eN
 grind
theorem FM{s:Int}(x:List Int)(G:List Int->List Int->K):S.bS (λi=>match eN s (x.take i)with|some b=>G b (x.drop i)|none=>S.zero) (x.length+1)=match eN s x with|some b=>S.bS (λi=>G (b.take i) (b.drop i)) (b.length+1)|none=>S.zero:=by
 by_cases a:s=0
 ·simp_all[eN]
 ·rw[rF];have f:eN s (x.take 0)=none:=by unfold eN;rw[if_neg a];rfl
  rw[f];dsimp only;rw[S.zero_add]
  cases x with
  |nil=>unfold eN;rw[if_neg a];rfl
  |cons c r=>
   have e:eN s (c::r)=if c=s then some r else none:=by unfold eN;rw[if_neg a]
   rw[e];by_cases d:c=s
   ·rw[if_pos d];exact ax λi _=>by
     rw[CH a,e,if_pos d];rfl
   ·rw[if_neg d];dsimp only;rw[ax (g:=λ_=>S.zero) λi _=>by rw[CH a,e,if_neg d];rfl,dR]
theorem Pk(A:bN K)(V:List Int->List Int->K)(x y:List Int)(a:qo K):eK S (λd e k f=>S.mul (bN.go S (bN.val S A) d e a) (V k f)) x y=bN.go S (conv S A V) x y a:=by
 unfold bN.go;by_cases c:a.i=0/\a.o=0
 ·rw[if_pos c];exact A2 λi j _ _=>by rw[if_pos c,S.zero_mul]
 ·rw[if_neg c];unfold eK;have l:∀i,S.bS (λj=>S.mul (if a.i=0/\a.o=0 then S.zero else match eN a.i (x.take i),eN a.o (y.take j)with|some m,some b=>S.mul a.w (bN.val S A m b a.t)|_,_=>S.zero) (V (x.drop i) (y.drop j))) (y.length+1) =
    (match eN a.i (x.take i)with|some d=>(match eN a.o y with|some b=>S.bS (λj=>S.mul a.w (S.mul (bN.val S A d (b.take j) a.t) (V (x.drop i) (b.drop j)))) (b.length+1)|none=>S.zero)|none=>S.zero):=λi=>by
   cases h:eN a.i (x.take i)with
   |none=>
    dsimp only;rw[ax (g:=λ_=>S.zero) λj _=>by rw[if_neg c,S.zero_mul],dR]
   |some d=>
    dsimp only;have:=FM (S:=S) (s:=a.o) y (λe f=>S.mul a.w (S.mul (bN.val S A d e a.t) (V (x.drop i) f)));rw[<-this];refine ax λj _=>?_;rw[if_neg c]
    cases eN a.o (y.take j)with
    |none=>exact S.zero_mul _
    |some e=>exact S.mul_assoc _ _ _
  refine(ax λi _=>l i).trans ?_;have:=FM (S:=S) (s:=a.i) x (λd k=>match eN a.o y with|some b=>S.bS (λj=>S.mul a.w (S.mul (bN.val S A d (b.take j) a.t) (V k (b.drop j)))) (b.length+1)|none=>S.zero)
  grind[dR,qh,ax,conv,eK]
theorem zC(a:Nat->Nat->K)(n:Nat)(c:Nat->Nat->K)(i:Nat):∀m,pF S a n (λq=>S.bS (λk=>c k q) m) i=S.bS (λk=>pF S a n (c k) i) m
 |0=>by
  show pF S a n (λ_=>S.zero) i=S.zero;unfold pF;rw[ax (g:=λ_=>S.zero) λj _=>mul_zero _,dR,S.zero_add]
 |m+1=>by
  show pF S a n (λq=>S.add (S.bS (λk=>c k q) m) (c m q)) i=S.add _ _;rw[ZD,zC a n c i m]
theorem A1{f:Type}(F:f->List Int->List Int->List Int->List Int->K)(x y:List Int):∀l:List f,eK S (λa b c d=>fk S (λe=>F e a b c d) l) x y=fk S (λe=>eK S (F e) x y) l
 |[]=>A2 λ_ _ _ _=>rfl
 |e::l=>by
  show eK S (λa b c d=>S.add (F e a b c d) (fk S (λe=>F e a b c d) l)) x y=S.add _ _;rw[CE,A1 F x y l]
theorem Pj(A:bN K)(V:List Int->List Int->K)(x y:List Int){q:Nat}(f:q<A.n):conv S A V x y q=pF S (bN.EO S A) A.n (λq=>S.add (S.mul (A.fin q) (V x y)) (fk S (bN.go S (conv S A V) x y) (A.arcs q))) q:=by
 have g:conv S A V x y q=pF S (bN.EO S A) A.n (λq=>eK S (λe d c b=>S.mul (bN.tail S A (bN.val S A) e d q) (V c b)) x y) q:=by
  unfold eK;rw[zC];unfold conv eK
  refine ax λi _=>?_;rw[zC];refine ax λj _=>?_;dsimp only;rw[bN.IK (S:=S) (M:=A),S.mul_comm,<-ZE];exact vn (λ_ _ _ _=>rfl) (λq _=>S.mul_comm _ _) q f
 rw[g];refine vn (λ_ _ _ _=>rfl) (λq _=>?_) q f;have h:eK S (λe d c b=>S.mul (bN.tail S A (bN.val S A) e d q) (V c b)) x y=S.add (eK S (λe d c b=>if e=[]/\d=[]then S.mul (A.fin q) (V c b)else S.zero) x y) (eK S (λe d c b=>fk S (λa=>S.mul (bN.go S (bN.val S A) e d a) (V c b)) (A.arcs q)) x y):=by
  rw[<-CE];refine rq λi j _ _=>?_;unfold bN.tail;rw[add_mul];congr 1
  ·split
   ·rfl
   ·exact S.zero_mul _
  ·rw[S.mul_comm,<-uD];exact eB λa _=>S.mul_comm _ _
 rw[h,LU (λ_ _ c b=>S.mul (A.fin q) (V c b)),A1 (λa e d c b=>S.mul (bN.go S (bN.val S A) e d a) (V c b))]
 grind[eB,Pk]
theorem nZ.link{C A:bN K}{low t:Nat}{lv:Nat->Option K}(b:nZ C A low lv t)(e:∀q,q<A.n->xw S (lv q)=A.fin q)(d:∀q,q<A.n->C.fin (low+q)=S.zero):∀(n:Nat)(x y:List Int),x.length+y.length<=n->∀q,q<A.n->bN.val S C x y (low+q)=conv S A (λx y=>bN.val S C x y t) x y q
 |n,x,y,j,q,c=>by
  rw[b.val x y c,Pj A _ x y c];refine vn (λ_ _ _ _=>rfl) (λq c=>?_) q c;rw[e q c,d q c];have:emp S x y S.zero=S.zero:=by unfold emp;split<;>rfl
  rw[this,S.zero_add,S.add_comm];congr 1;refine eB λa h=>bN.go_congr λg f i=>?_
  cases n with
  |zero=>omega
  |succ n=>exact b.link e d n g f (by omega) _ (b.tgt q c a h)
end
section
variable {K:Type} {S:aN K}
theorem xJ{C:bN K}{q:Nat}(s:q<C.n)(d:∀a∈C.arcs q,a.i=0/\a.o=0/\a.t<C.n)(x y:List Int):bN.val S C x y q=S.add (emp S x y (C.fin q)) (fk S (λa=>S.mul a.w (bN.val S C x y a.t)) (C.arcs q)):=by
 have f:∀q,bN.val S C x y q=pF S (bN.EO S C) C.n (bN.tail S C (bN.val S C) x y) q:=λq=>by rw[bN.IK (S:=S) (M:=C) x y]
 rw[f,xf];have j:bN.tail S C (bN.val S C) x y q=emp S x y (C.fin q):=by
  unfold bN.tail emp;rw[eB (g:=λ_=>S.zero) λa h=>?_,oJ,add_zero];unfold bN.go;rw[if_pos ⟨(d a h).1,(d a h).2.1⟩]
 rw[j];congr 1;have o:∀l,S.mul (bN.EO S C q l) (pF S (bN.EO S C) C.n (bN.tail S C (bN.val S C) x y) l)=fk S (λa=>if a.t=l then S.mul a.w (bN.val S C x y l)else S.zero) (C.arcs q):=λl=>by
  show S.mul (fk S (λa=>if a.i=0/\a.o=0/\a.t=l then a.w else S.zero) (C.arcs q)) _=_;rw[S.mul_comm,<-uD];refine eB λa h=>?_;obtain⟨k,n,_⟩:=d a h;by_cases c:a.t=l
  ·rw[if_pos ⟨k,n,c⟩,if_pos c,S.mul_comm,<-f]
  ·rw[if_neg λe=>c e.2.2,if_neg c,mul_zero]
 rw[ax λl _=>o l];have r:∀l:List (qo K),(∀a∈l,a.t<C.n)->S.bS (λp=>fk S (λa=>if a.t=p then S.mul a.w (bN.val S C x y p)else S.zero) l) C.n=fk S (λa=>S.mul a.w (bN.val S C x y a.t)) l:=λl=>by
  induction l with
  |nil=>intro _;exact dR _
  | cons a l m=>
   intro h;show S.bS (λp=>S.add (if a.t=p then S.mul a.w (bN.val S C x y p)else S.zero) (fk S _ l)) C.n=S.add _ _;rw[gG,m λb i=>h b (List.mem_cons_of_mem _ i)];congr 1;have t:=h a (mem_cons_self ..);rw[ax (g:=λp=>if a.t<=p/\p<a.t+1 then S.mul a.w (bN.val S C x y p)else S.zero) λp _=>by
    by_cases c:a.t=p
    ·rw[if_pos c,if_pos (by omega)]
    ·rw[if_neg c,if_neg (by omega)]]
   rw[sL (λp=>S.mul a.w (bN.val S C x y p)) (show a.t+1<=C.n by omega)];show S.add S.zero (S.mul a.w (bN.val S C x y (a.t+0)))=_;rw[S.zero_add,Nat.add_zero]
 grind
abbrev G7(K:Type):=List Int->List Int->K
def I6(S:aN K)(F G:G7 K):G7 K:=λx y=>eK S (λa b c d=>S.mul (F a b) (G c d)) x y
def tI(S:aN K):G7 K:=λx y=>emp S x y S.one
theorem LS{F a G b:G7 K}{x:List Int}(c:∀i j,i<=x.length->j<=p.length->F (x.take i) (p.take j)=a (x.take i) (p.take j))(d:∀i j,i<=x.length->j<=p.length->G (x.drop i) (p.drop j)=b (x.drop i) (p.drop j)):I6 S F G x p=I6 S a b x p:=rq λi j e f=>by grind
end
section
variable {K:Type} {S:aN K}
section
variable {C A:bN K} {lv:Nat->Option K} {la:K} {s0:Nat}
def SF(S:aN K)(A:bN K)(la:K)(s0:Nat):G7 K:=λx y=>S.mul la (bN.val S A x y s0)
theorem Ph(V:G7 K)(x y:List Int):S.mul la (conv S A V x y s0)=I6 S (SF S A la s0) V x y:=by
 unfold conv I6 SF
 rw[<-LW];exact rq λi j _ _=>(S.mul_assoc _ _ _).symm
end
end
variable{A:Type}
section
variable {K:Type}
noncomputable def aq(S:aN K):qn K:=⟨S.zero,S.one,λa=>@decide (a=S.zero) (Classical.propDecidable _),λa b=>some (S.add a b),λa b=>some (S.mul a b),λa=>some (S.star a)⟩
variable {S:aN K}
def vec(S:aN K)(l:List K)(p:Nat):K:=l.getD p S.zero
theorem uL{a:K}:(aq S).yj a=true↔a=S.zero:=@decide_eq_true_iff (a=S.zero) (Classical.propDecidable _)
theorem uQ{l:List K}{t p:Nat}(a:K)(b:t<l.length):vec S (l.set t a) p=if p=t then a else vec S l p:=by
 unfold vec
 grind
theorem qR(n p:Nat):vec S (List.replicate n S.zero) p=S.zero:=by grind[vec]
theorem mD{f:List K->Nat->Option (List K)}{n:Nat}{c:Nat->Nat->K}:∀(m i:Nat)(l:List K),(∀(l:List K)(k:Nat),i<=k->k<i+m->l.length=n->∃a,f l k=some a/\a.length=n/\∀p,p<n->vec S a p=S.add (vec S l p) (c k p))->l.length=n->
  ∃a,bg f m i l=some a/\a.length=n/\∀p,p<n->vec S a p=S.add (vec S l p) (S.bS (λj=>c (i+j) p) m)
 |0,i,l,_,b=>⟨l,rfl,b,λp _=>(add_zero _).symm⟩
 |m+1,i,l,d,b=>by
  obtain⟨q,h,o,g⟩:=d l i (Nat.le_refl _) (by omega) b;obtain⟨u,r,t,s⟩:=mD m (i+1) q (λl k w v=>d l k (by omega) (by omega)) o;refine⟨u,by unfold bg;rw[h];exact r,t,λp e=>?_⟩;rw[s p e,g p e,S.add_assoc];congr 1;rw[oK (S:=S) (f:=λj=>c (i+j) p) 1 (n:=m+1) (by omega)];congr 1
  ·exact(S.zero_add _).symm
  grind
theorem oW{a:Type}{f:List a->Nat->Option (List a)}{c:Nat->a}:∀(m i:Nat)(l:List a),(∀(l:List a)(k:Nat),i<=k->k<i+m->f l k=some (l++[c k]))->bg f m i l=some (l++(List.range m).map λj=>c (i+j))
 |0,i,l,_=>by simp[bg]
 |m+1,i,l,b=>by
  unfold bg;rw[b l i (Nat.le_refl _) (by omega)];show bg f m (i+1) _=_;rw[oW m (i+1) _ λl k d e=>b l k (by omega) (by omega),List.range_succ_eq_map,List.map_cons,List.map_map,List.append_assoc];congr 2;show c i::_=c (i+0)::_;congr 1;exact List.map_congr_left λj _=>by grind
theorem tE{b:Type}(F:b->K)(d:b):∀l:List b,S.bS (λk=>F (l.getD k d)) l.length=fk S F l
 |[]=>rfl
 |a::l=>by
  rw[List.length_cons,oK (S:=S) 1 (n:=l.length+1) (by omega)];show S.add (S.add S.zero (F a)) _=S.add (F a) _;rw[S.zero_add,<-tE F d l]
  grind
theorem Cw{l:List K}{t:Nat}(a b:K)(d:t<l.length):∃c,gK (aq S) l t a b=some c/\c.length=l.length/\∀p,vec S c p=S.add (vec S l p) (if t=p then S.mul a b else S.zero):=by
 refine⟨l.set t (S.add (vec S l t) (S.mul a b)),rfl,length_set,λp=>?_⟩;rw[uQ _ d];by_cases e:t=p
 ·grind
 ·rw[if_neg λh=>e h.symm,if_neg e,add_zero]
def gW(i o:Int)(p:Nat)(a:ju K):Prop:=a.i=i/\a.o=o/\a.t=p
instance (i o:Int) (p:Nat) (a:ju K):Decidable (gW i o p a):=inferInstanceAs (Decidable (_/\_/\_))
def bD(M:gr K)(q:Nat):List (ju K):=(M.bJ.getD q dN).arcs
def kT(M:gr K):Prop:=∀s∈M.bJ,∀a∈s.arcs,a.t<M.bJ.length
theorem kT.at_{M:gr K}(g:kT M){q k:Nat}(a:k<(bD M q).length):((bD M q).getD k (ck (aq S))).t<M.bJ.length:=by
 unfold bD at*;rcases tC (M:=M) q with e|e
 ·rw[e]at a;exact absurd a (Nat.not_lt_zero _)
 ·rw[gD,gE a];exact g _ e _ (getElem_mem a)
theorem SN{M:gr K}(g:kT M)(v:List K)(i o:Int):∃l,kU (aq S) M v i o=some l/\l.length=M.bJ.length/\∀p,p<M.bJ.length->vec S l p=S.bS (λq=>fk S (λa=>if gW i o p a then S.mul (vec S v q) a.w else S.zero) (bD M q)) M.bJ.length:=by
 obtain⟨l,y,A,w⟩:=mD (S:=S) (f:=qO (aq S) M v i o) (n:=M.bJ.length) (c:=λq p=>fk S (λa=>if gW i o p a then S.mul (vec S v q) a.w else S.zero) (bD M q)) M.bJ.length 0 (bw (aq S) M.bJ.length) (λl q _ _ b=>by
  unfold qO;have t:(aq S).yj (v.getD q (aq S).zero)=true↔vec S v q=S.zero:=uL;by_cases r:vec S v q=S.zero
  ·rw[if_pos (t.2 r)];refine⟨l,rfl,b,λp _=>?_⟩;rw[r,eB (g:=λ_=>S.zero) λa _=>by split;exact S.zero_mul _;rfl,oJ,add_zero]
  ·rw[if_neg λh=>r (t.1 h)];obtain⟨m,u,C,z⟩:=mD (S:=S) (f:=jV (aq S) i o (vec S v q) (bD M q)) (n:=M.bJ.length) (c:=λk p=>if gW i o p ((bD M q).getD k (ck (aq S)))then S.mul (vec S v q) ((bD M q).getD k (ck (aq S))).w else S.zero) (bD M q).length 0 l (λl k _ F b=>by
    unfold jV;by_cases d:((bD M q).getD k (ck (aq S))).i≠i\/((bD M q).getD k (ck (aq S))).o≠o
    ·rw[if_pos d];exact⟨l,rfl,b,λp _=>by rw[if_neg λh=>d.elim (λx=>x h.1) (λx=>x h.2.1),add_zero]⟩
    ·rw[if_neg d];obtain⟨m,D,B,E⟩:=Cw (S:=S) (l:=l) (vec S v q) ((bD M q).getD k (ck (aq S))).w (by rw[b];exact g.at_ (S:=S) (q:=q) (k:=k) (by omega));refine⟨m,D,by rw[B,b],λp _=>?_⟩;rw[E p];congr 1;by_cases e:((bD M q).getD k (ck (aq S))).t=p
     ·rw[if_pos e,if_pos];exact⟨Classical.byContradiction λx=>d (.inl x),Classical.byContradiction λx=>d (.inr x),e⟩
     ·rw[if_neg e,if_neg λh=>e h.2.2]) b
   refine⟨m,u,C,λp s=>?_⟩;rw[z p s];congr 1;have:=tE (S:=S) (λa=>if gW i o p a then S.mul (vec S v q) a.w else S.zero) (ck (aq S)) (bD M q);rw[<-this];exact ax λj _=>by rw[Nat.zero_add]) length_replicate
 refine⟨l,y,A,λp s=>?_⟩;rw[w p s];have:vec S (bw (aq S) M.bJ.length) p=S.zero:=qR _ _;rw[this,S.zero_add]
 grind
theorem mA(c:Nat->A)(d:A){n i:Nat}(h:i<n):((List.range n).map c).getD i d=c i:=by grind
theorem XF(a b:List K):∃l,nG (aq S) a b=some l/\l.length=a.length/\∀p,p<a.length->vec S l p=S.add (vec S a p) (vec S b p):=by
 have h:=oW (f:=xz (aq S) a b) (c:=λi=>S.add (vec S a i) (vec S b i)) a.length 0 [] (λl k _ _=>rfl);refine⟨_,h,by simp,λp d=>?_⟩
 simp_all[vec]
def eP(S:aN K)(M:gr K):bN K:=⟨M.bJ.length,λq=>(M.bJ.getD q dN).fin.getD S.zero,λq=>(bD M q).map λa=>⟨a.i,a.o,a.w,a.t⟩⟩
def zB(S:aN K)(M:gr K)(q p:Nat):K:=fk S (λa=>if gW 0 0 p a then a.w else S.zero) (bD M q)
theorem Jl(M:gr K)(q p:Nat):bN.EO S (eP S M) q p=zB S M q p:=by
 show fk S _ ((bD M q).map _)=_;rw[rh];rfl
theorem G9(B:List (List K))(i j:Nat):bT (aq S) B i j=vec S (B.getD i []) j:=rfl
theorem XC{M:gr K}(g:kT M):∃A,bg (gT (aq S) M) M.bJ.length 0 []=some A/\A.length=M.bJ.length/\∀q p,q<M.bJ.length->p<M.bJ.length->bT (aq S) A q p=zB S M q p:=by
 have e:∀q,∃r,bg (ff (aq S) (bD M q)) (bD M q).length 0 (bw (aq S) M.bJ.length)=some r/\∀p,p<M.bJ.length->vec S r p=zB S M q p:=λq=>by
  obtain⟨o,m,y,t⟩:=mD (S:=S) (f:=ff (aq S) (bD M q)) (n:=M.bJ.length) (c:=λk p=>if gW 0 0 p ((bD M q).getD k (ck (aq S)))then((bD M q).getD k (ck (aq S))).w else S.zero) (bD M q).length 0 (bw (aq S) M.bJ.length) (λl k _ w i=>by
   unfold ff;by_cases d:((bD M q).getD k (ck (aq S))).i≠0\/((bD M q).getD k (ck (aq S))).o≠0
   ·rw[if_pos d];exact⟨l,rfl,i,λp _=>by rw[if_neg λh=>d.elim (λx=>x h.1) (λx=>x h.2.1),add_zero]⟩
   ·rw[if_neg d];have v:((bD M q).getD k (ck (aq S))).t<l.length:=by rw[i];exact g.at_ (S:=S) (q:=q) (k:=k) (by omega)
    refine⟨_,rfl,by rw[length_set,i],λp _=>?_⟩;have:=uQ (S:=S) (p:=p) (S.add (vec S l ((bD M q).getD k (ck (aq S))).t) ((bD M q).getD k (ck (aq S))).w) v;refine this.trans ?_;by_cases b:p=((bD M q).getD k (ck (aq S))).t
    ·rw[if_pos b,if_pos,b];exact⟨Classical.byContradiction λx=>d (.inl x),Classical.byContradiction λx=>d (.inr x),b.symm⟩
    ·rw[if_neg b,if_neg λh=>b h.2.2.symm,add_zero]) length_replicate
  refine⟨o,m,λp b=>?_⟩;rw[t p b];have u:vec S (bw (aq S) M.bJ.length) p=S.zero:=qR _ _;rw[u,S.zero_add];have:=tE (S:=S) (λa=>if gW 0 0 p a then a.w else S.zero) (ck (aq S)) (bD M q);unfold zB;rw[<-this];exact ax λj _=>by rw[Nat.zero_add]
 have h:=oW (f:=gT (aq S) M) (c:=λq=>(e q).choose) M.bJ.length 0 [] (λl k _ _=>by
  unfold gT;have:=(e k).choose_spec.1;unfold bD at this;rw[this];rfl)
 refine⟨_,h,by simp,λq p s b=>?_⟩;rw[G9,List.nil_append,mA _ _ s,Nat.zero_add]
 grind
theorem He(B:List (List K))(k:Nat)(a:Nat->Nat->K)(m:k<B.length)(g:∀i j,i<B.length->j<B.length->bT (aq S) B i j=elim S a k i j):∃C,ft (aq S) B k=some C/\C.length=B.length/\∀i j,i<B.length->j<B.length->bT (aq S) C i j=elim S a (k+1) i j:=by
 have n:∀i j,i<B.length->j<B.length->∀r,cw (aq S) B (S.star (bT (aq S) B k k)) k i r j=some (r++[elim S a (k+1) i j]):=λi j b d r=>by
  unfold cw;have e:elim S a (k+1) i j=S.add (bT (aq S) B i j) (S.mul (S.mul (bT (aq S) B i k) (S.star (bT (aq S) B k k))) (bT (aq S) B k j)):=by
   rw[g i j b d,g i k b m,g k k m m,g k j m d];rfl
  by_cases c:((aq S).yj (bT (aq S) B i k)||(aq S).yj (bT (aq S) B k j))=true
  ·rw[if_pos c,e];congr 3;rw[Bool.or_eq_true,uL,uL]at c;rcases c with c|c
   ·rw[c,S.zero_mul,S.zero_mul,add_zero]
   grind[mul_zero,add_zero]
  ·rw[if_neg c,e];rfl
 have o:∀i,i<B.length->bg (cw (aq S) B (S.star (bT (aq S) B k k)) k i) B.length 0 []=some ((List.range B.length).map λj=>elim S a (k+1) i j):=λi b=>by
  have:=oW (f:=cw (aq S) B (S.star (bT (aq S) B k k)) k i) (c:=λj=>elim S a (k+1) i j) B.length 0 [] (λl j _ d=>n i j b (by omega) l)
  grind
 have h:=oW (f:=iW (aq S) B (S.star (bT (aq S) B k k)) k) (c:=λi=>(List.range B.length).map λj=>elim S a (k+1) i j) B.length 0 [] (λl i _ b=>by grind[iW]);refine⟨_,h,by simp,λi j b d=>?_⟩;rw[G9,List.nil_append,mA _ _ b,Nat.zero_add];exact mA _ _ d
theorem Jd(a:Nat->Nat->K):∀(m k:Nat)(B:List (List K)),k+m=B.length->(∀i j,i<B.length->j<B.length->bT (aq S) B i j=elim S a k i j)->∃C,bg (ft (aq S)) m k B=some C/\C.length=B.length/\∀i j,i<B.length->j<B.length->bT (aq S) C i j=elim S a (k+m) i j
 |0,k,B,_,b=>⟨B,rfl,rfl,b⟩
 |m+1,k,B,d,b=>by
  obtain⟨C,e,f,c⟩:=He B k a (by omega) b;obtain⟨D,g,o,l⟩:=Jd a m (k+1) C (by omega) (λi j h n=>c i j (by omega) (by omega))
  grind[bg]
theorem I7:∀(m k:Nat)(B:List (List K)),k+m=B.length->(∀i,i<B.length->(B.getD i []).length=B.length)->∃C,bg (oc (aq S)) m k B=some C/\∀i j,i<B.length->j<B.length->bT (aq S) C i j=if i=j/\k<=i then S.add S.one (bT (aq S) B i j)else bT (aq S) B i j
 |0,k,B,f,b=>⟨B,rfl,λi j a d=>by grind⟩
 | m+1,k,B,f,b=>by
  have n:k<B.length:=by omega
  obtain⟨C,g,l⟩:=I7 m (k+1) (B.set k ((B.getD k []).set k (S.add S.one (bT (aq S) B k k)))) (by rw[length_set];omega) (λi a=>by
   rw[length_set]at a;rw[gD,List.getElem?_set,length_set];by_cases e:k=i
   ·subst e;rw[if_pos rfl,if_pos a,getD_some,length_set];exact b k a
   ·rw[if_neg e,<-gD];exact b i a)
  refine⟨C,g,λi j a d=>?_⟩;rw[l i j (by rw[length_set];exact a) (by rw[length_set];exact d)];have e:bT (aq S) (B.set k ((B.getD k []).set k (S.add S.one (bT (aq S) B k k)))) i j=if i=k/\j=k then S.add S.one (bT (aq S) B k k)else bT (aq S) B i j:=by
   rw[G9,gD,List.getElem?_set];by_cases e:k=i
   ·subst e;rw[if_pos rfl,if_pos a,getD_some,uQ _ (by rw[b k a];exact a)];by_cases c:j=k
    ·rw[if_pos c,if_pos ⟨rfl,c⟩]
    ·rw[if_neg c,if_neg λh=>c h.2];rfl
   ·rw[if_neg e,<-gD,if_neg λh=>e h.1.symm];rfl
  grind
theorem CP:∀{m k:Nat}{B C:List (List K)},bg (ft (aq S)) m k B=some C->(∀i,i<B.length->(B.getD i []).length=B.length)->∀i,i<C.length->(C.getD i []).length=C.length
 |0,k,B,C,h,y=>by obtain rfl:=oI h;omega
 | m+1,k,B,C,h,y=>by
  unfold bg at h
  cases e:ft (aq S) B k with
  |none=>grind
  | some D=>
   rw[e]at h;refine CP h ?_;have t:∀i r j,∃c,cw (aq S) B (S.star (bT (aq S) B k k)) k i r j=some (r++[c]):=λi r j=>by
    unfold cw;split
    ·exact⟨_,rfl⟩
    ·exact⟨_,rfl⟩
   have w:∀i n d (r:List K),∃b,bg (cw (aq S) B (S.star (bT (aq S) B k k)) k i) n d r=some b/\b.length=r.length+n:=λi n=>by
    induction n with
    |zero=>exact λd r=>⟨r,rfl,rfl⟩
    |succ n s=>
     intro d r;obtain⟨c,t⟩:=t i r d;obtain⟨b,g,l⟩:=s (d+1) (r++[c]);exact⟨b,by unfold bg;rw[t];exact g,by rw[l];simp;omega⟩
   have o:∀n f (E:List (List K)),(∀x∈E,x.length=B.length)->∃a,bg (iW (aq S) B (S.star (bT (aq S) B k k)) k) n f E=some a/\a.length=E.length+n/\∀x∈a,x.length=B.length:=λn=>by
    induction n with
    |zero=>exact λf E p=>⟨E,rfl,rfl,p⟩
    | succ n s=>
     intro f E p;obtain⟨b,g,l⟩:=w f B.length 0 [];obtain⟨a,u,v,z⟩:=s (f+1) (E++[b]) (λx q=>by
      rcases mem_append.1 q with h|h
      ·exact p x h
      ·rw[mem_singleton.1 h,l];simp)
     exact⟨a,by unfold bg iW;rw[g];exact u,by rw[v];simp;omega,z⟩
   obtain⟨a,g,l,u⟩:=o B.length 0 [] (λx q=>by cases q);have v:ft (aq S) B k=some a:=g
   grind
theorem SL{A:List (List K)}(a:∀i,i<A.length->(A.getD i []).length=A.length):∃B,jU (aq S) A=some B/\∀i j,i<A.length->j<A.length->bT (aq S) B i j=if i=j then S.add S.one (elim S (bT (aq S) A) A.length i j)else elim S (bT (aq S) A) A.length i j:=by
 obtain⟨C,b,e,d⟩:=Jd (S:=S) (bT (aq S) A) A.length 0 A (Nat.zero_add _) (λi j _ _=>rfl);have c:=CP b a;obtain⟨B,g,f⟩:=I7 (S:=S) A.length 0 C (by omega) c
 simp_all[jU]
end
section
variable {K:Type} {S:aN K}
theorem SH{v:List K}{B:List (List K)}:∃l,ga (aq S) v (some B)=some l/\l.length=v.length/\∀p,p<v.length->vec S l p=S.bS (λq=>S.mul (vec S v q) (bT (aq S) B q p)) v.length:=by
 obtain⟨l,m,r,i⟩:=mD (S:=S) (f:=λl q=>bg (fR (aq S) v B q) v.length 0 l) (n:=v.length) (c:=λq p=>S.mul (vec S v q) (bT (aq S) B q p)) v.length 0 (bw (aq S) v.length) (λl q _ _ a=>by
  obtain⟨b,h,w,o⟩:=mD (S:=S) (f:=fR (aq S) v B q) (n:=v.length) (c:=λk p=>if k=p then S.mul (vec S v q) (bT (aq S) B q k)else S.zero) v.length 0 l (λl k _ z a=>by
   unfold fR;by_cases c:((aq S).yj (v.getD q (aq S).zero)||(aq S).yj (bT (aq S) B q k))=true
   ·rw[if_pos c];refine⟨l,rfl,a,λp _=>?_⟩;have u:S.mul (vec S v q) (bT (aq S) B q k)=S.zero:=by
     rw[Bool.or_eq_true,uL,uL]at c;rcases c with c|c
     ·have c:vec S v q=S.zero:=c;rw[c,S.zero_mul]
     ·have c:bT (aq S) B q k=S.zero:=c;rw[c,mul_zero]
    rw[u];split<;>rw[add_zero]
   ·rw[if_neg c];obtain⟨b,x,s,y⟩:=Cw (S:=S) (l:=l) (t:=k) (vec S v q) (bT (aq S) B q k) (by omega);exact⟨b,x,by rw[s,a],λp _=>y p⟩) a
  refine⟨b,h,w,λp d=>?_⟩;rw[o p d];congr 1;rw[ax (g:=λj=>if p<=j/\j<p+1 then S.mul (vec S v q) (bT (aq S) B q j)else S.zero) λj _=>by
   rw[Nat.zero_add];by_cases e:j=p
   ·rw[if_pos e,if_pos (by omega)]
   ·rw[if_neg e,if_neg (by omega)]]
  rw[sL (λj=>S.mul (vec S v q) (bT (aq S) B q j)) (by omega:p+1<=v.length)];exact S.zero_add _) length_replicate
 refine⟨l,m,r,λp d=>?_⟩;rw[i p d];have:vec S (bw (aq S) v.length) p=S.zero:=qR _ _;rw[this,S.zero_add]
 grind
theorem XB(M:gr K)(v:List K)(i:v.length=M.bJ.length):oS (aq S) M v=some (dot S (vec S v) (eP S M).fin v.length):=by
 obtain⟨l,b,j,d⟩:=mD (S:=S) (f:=jS (aq S) M v) (n:=1) (c:=λq p=>S.mul (vec S v q) ((eP S M).fin q)) v.length 0 [S.zero] (λl q _ _ e=>by
  unfold jS;show ∃a,(match (M.bJ.getD q dN).fin with|none=>some l|some f=>gK (aq S) l 0 (v.getD q (aq S).zero) f)=some a/\a.length=1/\∀p,p<1->vec S a p=S.add (vec S l p) (S.mul (vec S v q) ((M.bJ.getD q dN).fin.getD S.zero))
  cases (M.bJ.getD q dN).fin with
  |none=>exact⟨l,rfl,e,λp _=>by show _=S.add _ (S.mul _ S.zero);rw[mul_zero,add_zero]⟩
  |some f=>
   obtain⟨a,g,k,h⟩:=Cw (S:=S) (l:=l) (t:=0) (vec S v q) f (by omega);refine⟨a,g,by omega,λp m=>?_⟩;rw[h p,if_pos (by omega)];rfl) rfl
 unfold oS;have b:bg (jS (aq S) M v) v.length 0 [(aq S).zero]=some l:=b;rw[b];show some (vec S l 0)=_;rw[d 0 (by omega)];show some (S.add S.zero _)=_;rw[S.zero_add]
 simp_all[dot]
noncomputable def G8(S:aN K)(M:gr K)(x y:List Int)(i j q:Nat):K:=bN.val S (eP S M) (x.drop i) (y.drop j) q
def jg(S:aN K)(M:gr K)(x y:List Int)(i j q:Nat):K:=bN.tail S (eP S M) (bN.val S (eP S M)) (x.drop i) (y.drop j) q
theorem L7{M:gr K}(g:kT M){r:Option (List (List K))}(f:dW (aq S) M=some r):∀v:List K,v.length=M.bJ.length->∃l,ga (aq S) v r=some l/\l.length=M.bJ.length/\∀x y i j,dot S (vec S v) (G8 S M x y i j) M.bJ.length=dot S (vec S l) (jg S M x y i j) M.bJ.length:=by
 obtain⟨A,P,Q,R⟩:=XC (S:=S) g;unfold dW at f;rw[P]at f;dsimp only at f;have O:∀x y i j,G8 S M x y i j=pF S (bN.EO S (eP S M)) M.bJ.length (jg S M x y i j):=λx y i j=>bN.IK (S:=S) (M:=eP S M) (x.drop i) (y.drop j);split at f
 ·split at f
  ·grind
  ·have T:∀i,i<A.length->(A.getD i []).length=A.length:=by
    have L:∀(m k:Nat)(E t:List (List K)),(∀x∈E,x.length=M.bJ.length)->bg (gT (aq S) M) m k E=some t->∀x∈t,x.length=M.bJ.length:=λm=>by
     induction m with
     |zero=>intro k E t G e;obtain rfl:=oI e;exact G
     | succ m I=>
      intro k E t G e;unfold bg at e
      cases o:gT (aq S) M E k with
      |none=>rw[o]at e;cases e
      | some F=>
       rw[o]at e;refine I (k+1) F t ?_ e;unfold gT at o
       cases C:bg (ff (aq S) (M.bJ.getD k dN).arcs) (M.bJ.getD k dN).arcs.length 0 (bw (aq S) M.bJ.length)with
       |none=>rw[C]at o;cases o
       | some r=>
        rw[C]at o;obtain rfl:=oI o;have f:∀(m D:Nat)(l u:List K),bg (ff (aq S) (M.bJ.getD k dN).arcs) m D l=some u->u.length=l.length:=λm=>by
         induction m with
         |zero=>intro D l u e;obtain rfl:=oI e;rfl
         | succ m I=>
          intro D l u e;unfold bg at e
          cases s:ff (aq S) (M.bJ.getD k dN).arcs l D with
          |none=>rw[s]at e;cases e
          |some l2=>
           rw[s]at e;rw[I _ _ _ e];unfold ff at s;split at s
           ·obtain rfl:=oI s;rfl
           ·have s:some (l.set _ _)=some l2:=s;obtain rfl:=oI s;exact length_set
        intro x H;rcases mem_append.1 H with h|h
        ·exact G x h
        ·rw[mem_singleton.1 h,f _ _ _ _ C];exact length_replicate
    intro i z;rw[gD,gE z,getD_some,Q];exact L _ _ _ _ (λx H=>by cases H) P _ (getElem_mem z)
   obtain⟨B,W,h5⟩:=SL (S:=S) T;rw[W]at f;obtain rfl:=oI f;intro v N;obtain⟨l,o,C,s⟩:=SH (S:=S) (v:=v) (B:=B);refine⟨l,o,by omega,λx y i j=>?_⟩;rw[O];have U:∀q,q<M.bJ.length->pF S (bN.EO S (eP S M)) M.bJ.length (jg S M x y i j) q=S.bS (λp=>S.mul (bT (aq S) B q p) (jg S M x y i j p)) M.bJ.length:=λq w=>by
    have Z:=vn (S:=S) (a:=bN.EO S (eP S M)) (b:=bT (aq S) A) (n:=M.bJ.length) (c:=jg S M x y i j) (d:=jg S M x y i j) (λi j z Y=>by rw[R i j z Y,Jl]) (λ_ _=>rfl) q w;rw[Z];have X:∀p,p<M.bJ.length->S.mul (bT (aq S) B q p) (jg S M x y i j p)=S.add (if q<=p/\p<q+1 then jg S M x y i j p else S.zero) (S.mul (elim S (bT (aq S) A) M.bJ.length q p) (jg S M x y i j p)):=λp hp=>by
     rw[h5 q p (by omega) (by omega),Q];by_cases e:q=p
     ·rw[if_pos e,if_pos (by omega),add_mul,S.one_mul]
     ·rw[if_neg e,if_neg (by omega),S.zero_add]
    rw[ax X,gG,sL (jg S M x y i j) (by omega:q+1<=M.bJ.length)];show S.add (jg S M x y i j q) _=S.add (S.add S.zero (jg S M x y i j (q+0))) _;rw[S.zero_add];rfl
   unfold dot;rw[ax λq w=>by rw[U q w]];rw[ax (g:=λq=>S.bS (λp=>S.mul (S.mul (vec S v q) (bT (aq S) B q p)) (jg S M x y i j p)) M.bJ.length) λq _=>by
    rw[<-qh];exact ax λp _=>(S.mul_assoc _ _ _).symm]
   rw[zj]
   grind[ax,vt]
 ·next J=>
  obtain rfl:=oI f;intro v N;refine⟨v,rfl,N,λx y i j=>?_⟩;unfold dot;refine ax λq w=>?_;congr 1;rw[O,xf];rw[ax (g:=λ_=>S.zero) λl _=>by
   rw[Jl];have:zB S M q l=S.zero:=by
    unfold zB;rw[eB (g:=λ_=>S.zero) λa V=>?_,oJ];rw[if_neg];rintro⟨c1,c2,_⟩;refine J ?_;unfold oP;refine List.any_eq_true.2 ⟨M.bJ.getD q dN,?_,List.any_eq_true.2 ⟨a,V,by grind⟩⟩;rcases tC (M:=M) q with e|e
    ·grind
    ·exact e
   rw[this,S.zero_mul]]
  rw[dR,add_zero]
theorem CG{x:List Int}(c:∀s∈x,s≠0)(i:Nat)(s:Int)(b:Nat)(d:b<=1)(g:i+b<=x.length)(a:s=bO x i b):eN s (x.drop i)=some (x.drop (i+b)):=by
 unfold bO at a;by_cases e:b=1
 ·subst e;rw[if_pos rfl]at a;have f:x.drop i=x.getD i 0::x.drop (i+1):=by
   rw[gD,gE (by omega)];exact drop_eq_getElem_cons (by omega)
  have h:s≠0:=by
   rw[a,gD,gE (by omega)];exact c _ (getElem_mem _)
  simp_all[eN]
 ·rw[if_neg e]at a;obtain rfl:b=0:=by omega
  simp_all[eN]
theorem uK{x:List Int}(f:∀s∈x,s≠0){i:Nat}(g:i<=x.length){s:Int}(h:eN s (x.drop i)=some p):∃b,b<=1/\i+b<=x.length/\s=bO x i b/\p=x.drop (i+b)/\(b=0↔s=0):=by
 unfold eN at h;split at h
 ·next e=>
  obtain rfl:=oI h;exact⟨0,by omega,by omega,by simp_all[bO],rfl,⟨λ_=>e,λ_=>rfl⟩⟩
 ·next e=>
  by_cases a:i<x.length
  ·have d:x.drop i=x.getD i 0::x.drop (i+1):=by
    rw[gD,gE a];exact drop_eq_getElem_cons a
   rw[d]at h;dsimp only at h;split at h
   ·next c=>
    obtain rfl:=oI h;exact⟨1,by omega,by omega,by unfold bO;rw[if_pos rfl];exact c.symm,rfl,⟨λh=>by omega,λh=>absurd h e⟩⟩
   ·cases h
  grind
theorem ack{b c:Nat}{P:Prop}(a:b<=1)(f:c<=1)(d:b=0↔P)(e:c=0↔P):b=c:=by grind
noncomputable def kh(S:aN K)(M:gr K)(x y:List Int)(i j:Nat)(a:ju K)(k:Nat):K:=
 if x.length<i+k%2\/y.length<j+k/2 then S.zero else if a.i=bO x i (k%2)/\a.o=bO y j (k/2)then S.mul a.w (G8 S M x y (i+k%2) (j+k/2) a.t)else S.zero
theorem go_eq{M:gr K}{x:List Int}(m:∀s∈x,s≠0)(t:∀s∈p,s≠0){i j:Nat}(r:i<=x.length)(u:j<=p.length)(a:ju K):bN.go S (bN.val S (eP S M)) (x.drop i) (p.drop j) ⟨a.i,a.o,a.w,a.t⟩=S.bS (λk=>kh S M x p i j a (1+k)) 3:=by
 have F:∀{x:List Int}{i b:Nat},(∀s∈x,s≠0)->b<=1->i+b<=x.length->(bO x i b=0↔b=0):=λ{x i b} m L r=>by
  unfold bO
  grind
 have J:∀k,k=1\/k=2\/k=3->kh S M x p i j a k≠S.zero->i+k%2<=x.length/\j+k/2<=p.length/\a.i=bO x i (k%2)/\a.o=bO p j (k/2):=λk _ h=>by simp_all[kh]
 show(if a.i=0/\a.o=0 then S.zero else match eN a.i (x.drop i),eN a.o (p.drop j)with|some l,some g=>S.mul a.w (bN.val S (eP S M) l g a.t)|_,_=>S.zero)=S.add (S.add (S.add S.zero (kh S M x p i j a 1)) (kh S M x p i j a 2)) (kh S M x p i j a 3);rw[S.zero_add];have d:∀k,k=1\/k=2\/k=3->¬((k%2=0↔a.i=0)/\(k/2=0↔a.o=0))->kh S M x p i j a k=S.zero:=λk C N=>Classical.byContradiction λc=>by grind
 have e:∀k,k=1\/k=2\/k=3->(k%2=0↔a.i=0)->(k/2=0↔a.o=0)->kh S M x p i j a k=(match eN a.i (x.drop i),eN a.o (p.drop j)with|some l,some g=>S.mul a.w (bN.val S (eP S M) l g a.t)|_,_=>S.zero):=λk C O P=>by
  unfold kh;split
  ·next c=>
   cases n:eN a.i (x.drop i)with
   |none=>rfl
   | some l=>
    cases o:eN a.o (p.drop j)with
    |none=>rfl
    |some g=>
     obtain⟨b,G,w,H,E,y⟩:=uK m r n;obtain⟨B,D,z,v,A,I⟩:=uK t u o;omega
  ·next c=>
   split
   ·next f=>
    rw[CG m i _ _ (by omega) (by omega) f.1,CG t j _ _ (by omega) (by omega) f.2];rfl
   ·next f=>
    cases n:eN a.i (x.drop i)with
    |none=>rfl
    | some l=>
     cases o:eN a.o (p.drop j)with
     |none=>rfl
     |some g=>
      obtain⟨b,G,w,H,E,y⟩:=uK m r n;obtain⟨B,D,z,v,A,I⟩:=uK t u o
      grind
 by_cases q:a.i=0
 ·by_cases f:a.o=0
  ·rw[if_pos ⟨q,f⟩,d 1 (by omega) (by omega),d 2 (by omega) (by omega),d 3 (by omega) (by omega),S.zero_add,S.zero_add]
  ·rw[if_neg λh=>f h.2,d 1 (by omega) (by omega),e 2 (by omega) (by omega) (by omega),d 3 (by omega) (by omega),S.zero_add,add_zero]
 ·by_cases f:a.o=0
  ·rw[if_neg λh=>q h.1,e 1 (by omega) (by omega) (by omega),d 2 (by omega) (by omega),d 3 (by omega) (by omega),add_zero,add_zero]
  ·rw[if_neg λh=>q h.1,d 1 (by omega) (by omega),d 2 (by omega) (by omega),e 3 (by omega) (by omega) (by omega),S.zero_add,S.zero_add]
end
variable{i:Nat}{m:Nat}{n:Nat}{j:Nat}
section
variable {K:Type} {S:aN K}
structure oO(M:gr K)(x y:List Int)(T:List (List (List K))):Prop where
 len:T.length=x.length+1
 row:∀i,i<=x.length->(T.getD i []).length=y.length+1
 cell:∀i j,i<=x.length->j<=y.length->(dM T i j).length=M.bJ.length
theorem wB{l:List A}(a:i<l.length)(v d:A)(j:Nat):(l.set i v).getD j d=if j=i then v else l.getD j d:=by grind
section
variable {M:gr K} {x y:List Int} {T:List (List (List K))}
theorem oO.zM(s:oO M x y T){i j:Nat}(d:i<=x.length)(f:j<=y.length)(v:List K)(a b:Nat):dM (fu T i j v) a b=if a=i/\b=j then v else dM T a b:=by
 unfold dM fu;rw[wB (by rw[s.len];omega)];by_cases e:a=i
 ·subst e;rw[if_pos rfl,wB (by rw[s.row a d];omega)];by_cases c:b=j
  ·rw[if_pos c,if_pos ⟨rfl,c⟩]
  ·rw[if_neg c,if_neg λh=>c h.2]
 grind
theorem oO.set(s:oO M x y T){i j:Nat}(d:i<=x.length)(f:j<=y.length){v:List K}(g:v.length=M.bJ.length):oO M x y (fu T i j v):=by
 refine⟨by unfold fu;rw[length_set];exact s.len,λa c=>?_,λa b c e=>?_⟩
 ·unfold fu;rw[wB (by rw[s.len];omega)];split
  ·rw[length_set];exact s.row i d
  ·exact s.row a c
 ·rw[s.zM d f];split
  ·omega
  ·exact s.cell a b c e
noncomputable def zw(S:aN K)(M:gr K)(x y:List Int)(T:List (List (List K)))(a b:Nat):K:=dot S (vec S (dM T a b)) (G8 S M x y a b) M.bJ.length
noncomputable def iR(S:aN K)(M:gr K)(x y:List Int)(T:List (List (List K)))(i j:Nat):K:=S.bS (λa=>S.bS (λb=>if i<a\/(a=i/\j<=b)then zw S M x y T a b else S.zero) (y.length+1)) (x.length+1)
theorem rE{p q:Nat}(i:p<m)(f:q<n)(c:K):S.bS (λa=>S.bS (λb=>if a=p/\b=q then c else S.zero) n) m=c:=by
 have d:∀a,S.bS (λb=>if a=p/\b=q then c else S.zero) n=if p<=a/\a<p+1 then c else S.zero:=λa=>by
  by_cases e:a=p
  ·rw[if_pos (by omega),ax (g:=λb=>if q<=b/\b<q+1 then c else S.zero) λb _=>by grind];rw[sL (λ_=>c) (by omega:q+1<=n)];exact S.zero_add c
  ·rw[if_neg (by omega),ax (g:=λ_=>S.zero) λb _=>if_neg λh=>e h.1,dR]
 rw[ax λa _=>d a,sL (λ_=>c) (by omega:p+1<=m)];exact S.zero_add c
theorem CQ(f g:Nat->Nat->K)(m n:Nat):S.bS (λa=>S.bS (λb=>S.add (f a b) (g a b)) n) m=S.add (S.bS (λa=>S.bS (f a) n) m) (S.bS (λa=>S.bS (g a) n) m):=by simp[gG]
theorem Jh(c:i<=x.length)(d:j<=y.length):iR S M x y T i j=S.add (zw S M x y T i j) (iR S M x y T i (j+1)):=by
 unfold iR;rw[<-rE (S:=S) (p:=i) (q:=j) (m:=x.length+1) (n:=y.length+1) (by omega) (by omega) (zw S M x y T i j),<-CQ];refine ax λa _=>ax λb _=>?_;by_cases e:a=i/\b=j
 ·simp_all[if_neg,add_zero]
 ·rw[if_neg e,S.zero_add]
  grind
theorem Pp{d:List (List (List K))}{p q:Nat}(r:p<=x.length)(l:q<=y.length)(o:i<p\/(p=i/\j<=q)){c:K}(h:∀a b,a<=x.length->b<=y.length->(i<a\/(a=i/\j<=b))->zw S M x y d a b=S.add (zw S M x y T a b) (if a=p/\b=q then c else S.zero)):iR S M x y d i j=S.add (iR S M x y T i j) c:=by
 unfold iR;have e:=rE (S:=S) (p:=p) (q:=q) (m:=x.length+1) (n:=y.length+1) (by omega) (by omega) c
 conv=>rhs;rw[<-e]
 rw[<-CQ];refine ax λa k=>ax λb f=>?_;by_cases g:i<a\/(a=i/\j<=b)
 ·grind
 ·rw[if_neg g,if_neg g,if_neg (by omega),add_zero]
theorem Jg{c:List (List (List K))}(h:∀a b,a<=x.length->b<=y.length->(i<a\/(a=i/\j<=b))->zw S M x y c a b=zw S M x y T a b):iR S M x y c i j=iR S M x y T i j:=by
 unfold iR;refine ax λa e=>ax λb d=>?_
 grind
theorem L4(i:Nat):iR S M x y T i (y.length+1)=iR S M x y T (i+1) 0:=by
 unfold iR;refine ax λa d=>ax λb c=>?_
 grind
theorem Po:iR S M x y T (x.length+1) j=S.zero:=by
 unfold iR;rw[ax (g:=λ_=>S.zero) λa c=>?_,dR];rw[ax (g:=λ_=>S.zero) λb _=>if_neg (by omega),dR]
theorem Pl(u v w:Nat->K)(n:Nat):dot S (λp=>S.add (u p) (v p)) w n=S.add (dot S u w n) (dot S v w n):=by grind[gG,ax,add_mul,dot]
theorem Jc{u v w:Nat->K}(h:∀p,p<n->u p=v p):dot S u w n=dot S v w n:=ax λi a=>by grind
noncomputable def jv(S:aN K)(M:gr K)(x y:List Int)(v:List K)(i j k:Nat):K:=S.bS (λq=>S.mul (vec S v q) (fk S (λa=>kh S M x y i j a k) (bD M q))) M.bJ.length
theorem L8(g:kT M)(v:List K){i j k:Nat}(r:¬(x.length<i+k%2\/y.length<j+k/2)){s:List K}(n:∀p,p<M.bJ.length->vec S s p=S.bS (λq=>fk S (λa=>if gW (bO x i (k%2)) (bO y j (k/2)) p a then S.mul (vec S v q) a.w else S.zero) (bD M q)) M.bJ.length):
  dot S (vec S s) (G8 S M x y (i+k%2) (j+k/2)) M.bJ.length=jv S M x y v i j k:=by
 unfold jv dot;rw[ax (g:=λp=>S.bS (λq=>fk S (λa=>if gW (bO x i (k%2)) (bO y j (k/2)) p a then S.mul (vec S v q) (S.mul a.w (G8 S M x y (i+k%2) (j+k/2) a.t))else S.zero) (bD M q)) M.bJ.length) λp t=>by
  rw[n p t,<-vt];refine ax λq _=>?_;rw[S.mul_comm,<-uD];refine eB λa _=>?_;by_cases c:gW (bO x i (k%2)) (bO y j (k/2)) p a
  ·rw[if_pos c,if_pos c,c.2.2,S.mul_comm,S.mul_assoc]
  ·rw[if_neg c,if_neg c,mul_zero]]
 rw[zj];refine ax λq u=>?_;rw[<-uD];have e:∀l:List (ju K),(∀a∈l,a.t<M.bJ.length)->S.bS (λp=>fk S (λa=>if gW (bO x i (k%2)) (bO y j (k/2)) p a then S.mul (vec S v q) (S.mul a.w (G8 S M x y (i+k%2) (j+k/2) a.t))else S.zero) l) M.bJ.length=fk S (λa=>S.mul (vec S v q) (kh S M x y i j a k)) l:=λl=>by
  induction l with
  |nil=>intro _;exact dR _
  | cons a l o=>
   intro f;have d:=f a (mem_cons_self ..);show S.bS (λp=>S.add (if gW (bO x i (k%2)) (bO y j (k/2)) p a then _ else S.zero) (fk S _ l)) _=S.add _ _;rw[gG,o λb m=>f b (List.mem_cons_of_mem _ m)];congr 1;unfold kh;dsimp only;rw[if_neg r];by_cases c:a.i=bO x i (k%2)/\a.o=bO y j (k/2)
   ·rw[if_pos c,ax (g:=λp=>if a.t<=p/\p<a.t+1 then S.mul (vec S v q) (S.mul a.w (G8 S M x y (i+k%2) (j+k/2) a.t))else S.zero) λp _=>by
     by_cases e:a.t=p
     ·rw[if_pos ⟨c.1,c.2,e⟩,if_pos (by omega)]
     ·rw[if_neg λh=>e h.2.2,if_neg (by omega)]]
    rw[sL (λ_=>S.mul (vec S v q) (S.mul a.w (G8 S M x y (i+k%2) (j+k/2) a.t))) (by omega:a.t+1<=M.bJ.length)];exact S.zero_add _
   ·rw[if_neg c,ax (g:=λ_=>S.zero) λp _=>if_neg λh=>c ⟨h.1,h.2.1⟩,dR,mul_zero]
 refine e _ λa d=>?_;unfold bD at d;rcases tC (M:=M) q with e|e
 ·rw[e]at d;cases d
 ·exact g _ e a d
theorem CL(g:kT M)(s:oO M x y T){v:List K}(t:v.length=M.bJ.length){i j:Nat}(A:i<=x.length)(C:j<=y.length){k:Nat}(B:k=1\/k=2\/k=3):
  ∃h,oU (aq S) M x y v i j T k=some h/\oO M x y h/\dM h i j=dM T i j/\iR S M x y h i (j+1)=S.add (iR S M x y T i (j+1)) (jv S M x y v i j k):=by
 unfold oU;by_cases c:x.length<i+k%2\/y.length<j+k/2
 ·simp_all[dR,oJ,mul_zero,add_zero,jv,kh]
 ·rw[if_neg c];obtain⟨l,n,u,m⟩:=SN (S:=S) g v (bO x i (k%2)) (bO y j (k/2));rw[n];dsimp only;have f:i+k%2<=x.length:=by omega
  have d:j+k/2<=y.length:=by omega
  obtain⟨r,o,z,D⟩:=XF (S:=S) (dM T (i+k%2) (j+k/2)) l;rw[o];dsimp only;have p:=s.cell _ _ f d;refine⟨_,rfl,s.set f d (by omega),?_,?_⟩
  ·rw[s.zM f d,if_neg (by omega)]
  ·refine Pp f d (by omega) λa b w q _=>?_;unfold zw;rw[s.zM f d];by_cases e:a=i+k%2/\b=j+k/2
   ·rw[if_pos e,if_pos e,e.1,e.2,<-L8 g v c m,<-Pl]
    grind[Jc]
   ·rw[if_neg e,if_neg e,add_zero]
theorem XD(g:kT M)(A:∀s∈x,s≠0)(N:∀s∈y,s≠0){B:Option (List (List K))}(t:dW (aq S) M=some B)(s:oO M x y T){i j:Nat}(d:i<=x.length)(e:j<=y.length):
  ∃l,mZ (aq S) M B x y i T j=some l/\oO M x y l/\iR S M x y T i j=S.add (if i=x.length/\j=y.length then dot S (vec S (dM l i j)) (eP S M).fin M.bJ.length else S.zero) (iR S M x y l i (j+1)):=by
 obtain⟨v,U,m,u⟩:=L7 g t (dM T i j) (s.cell i j d e);have F:=s.set d e m;obtain⟨Q,Y,r,J,G⟩:=CL (S:=S) g F m d e (k:=1) (.inl rfl);obtain⟨V,W,w,o,D⟩:=CL (S:=S) g r m d e (k:=2) (.inr (.inl rfl));obtain⟨n,P,C,p,L⟩:=CL (S:=S) g w m d e (k:=3) (.inr (.inr rfl));refine⟨n,?_,C,?_⟩
 ·simp_all[mZ,bg]
 ·rw[Jh d e];have H:iR S M x y (fu T i j v) i (j+1)=iR S M x y T i (j+1):=Jg λa b _ _ h=>by
   unfold zw;rw[s.zM d e,if_neg (by omega)]
  have z:dM n i j=v:=by rw[p,o,J,s.zM d e,if_pos ⟨rfl,rfl⟩]
  rw[L,D,G,H,z];have I:zw S M x y T i j=S.add (if i=x.length/\j=y.length then dot S (vec S v) (eP S M).fin M.bJ.length else S.zero) (S.add (S.add (jv S M x y v i j 1) (jv S M x y v i j 2)) (jv S M x y v i j 3)):=by
   unfold zw;rw[u x y i j];have E:∀q,jg S M x y i j q=S.add (if i=x.length/\j=y.length then(eP S M).fin q else S.zero) (S.add (S.add (fk S (λa=>kh S M x y i j a 1) (bD M q)) (fk S (λa=>kh S M x y i j a 2) (bD M q))) (fk S (λa=>kh S M x y i j a 3) (bD M q))):=λq=>by
    show S.add (if x.drop i=[]/\y.drop j=[]then(eP S M).fin q else S.zero) (fk S (bN.go S (bN.val S (eP S M)) (x.drop i) (y.drop j)) ((bD M q).map λa=>⟨a.i,a.o,a.w,a.t⟩))=_;rw[rh,eB λa _=>go_eq A N d e a];congr 1
    ·by_cases c:i=x.length/\j=y.length
     ·grind
     ·rw[if_neg c,if_neg]
      grind[List.drop_eq_nil_iff]
    ·show fk S (λa=>S.add (S.add (S.add S.zero (kh S M x y i j a 1)) (kh S M x y i j a 2)) (kh S M x y i j a 3)) _=_;rw[eB (g:=λa=>S.add (S.add (kh S M x y i j a 1) (kh S M x y i j a 2)) (kh S M x y i j a 3)) λa _=>by rw[S.zero_add],Eh,Eh]
   unfold dot jv;rw[ax λq _=>by rw[E q,S.mul_add,S.mul_add,S.mul_add],gG,gG,gG];congr 1;by_cases c:i=x.length/\j=y.length
   ·grind
   ·rw[if_neg c,ax (g:=λ_=>S.zero) λq _=>by rw[if_neg c,mul_zero],dR]
  rw[I];generalize iR S M x y T i (j+1)=R;generalize jv S M x y v i j 1=X;generalize jv S M x y v i j 2=Z;generalize jv S M x y v i j 3=O;generalize (if i=x.length/\j=y.length then dot S (vec S v) (eP S M).fin M.bJ.length else S.zero)=f;rw[S.add_assoc f];congr 1;rw[S.add_comm,<-S.add_assoc,<-S.add_assoc]
theorem Od(g:kT M)(d:∀s∈x,s≠0)(f:∀s∈y,s≠0){B:Option (List (List K))}(b:dW (aq S) M=some B){i:Nat}(e:i<=x.length):∀(m j:Nat)(T:List (List (List K))),j+m=y.length+1->oO M x y T->
  ∃a,bg (mZ (aq S) M B x y i) m j T=some a/\oO M x y a/\(0<m->iR S M x y T i j=S.add (if i=x.length then dot S (vec S (dM a x.length y.length)) (eP S M).fin M.bJ.length else S.zero) (iR S M x y a (i+1) 0))
 |0,j,T,k,s=>⟨T,rfl,s,λh=>absurd h (lt_irrefl 0)⟩
 | m+1,j,T,k,s=>by
  obtain⟨l,t,p,n⟩:=XD g d f b s e (show j<=y.length by omega);obtain⟨o,q,r,u⟩:=Od g d f b e m (j+1) l (by omega) p;refine⟨o,by grind[bg],r,λ_=>?_⟩;rw[n];by_cases c:m=0
  ·subst c;obtain rfl:=oI q
   simp_all[L4]
  ·rw[if_neg (by omega),S.zero_add]
   grind
theorem Ji(g:kT M)(d:∀s∈x,s≠0)(e:∀s∈y,s≠0){B:Option (List (List K))}(b:dW (aq S) M=some B):∀(m i:Nat)(T:List (List (List K))),i+m=x.length+1->oO M x y T->
  ∃a,bg (rB (aq S) M B x y) m i T=some a/\oO M x y a/\(0<m->iR S M x y T i 0=dot S (vec S (dM a x.length y.length)) (eP S M).fin M.bJ.length)
 |0,i,T,f,s=>⟨T,rfl,s,λh=>absurd h (lt_irrefl 0)⟩
 | m+1,i,T,f,s=>by
  obtain⟨j,q,n,k⟩:=Od g d e b (show i<=x.length by omega) (y.length+1) 0 T (by omega) s;obtain⟨l,o,p,r⟩:=Ji g d e b m (i+1) j (by omega) n;refine⟨l,by grind[bg,rB],p,λ_=>?_⟩;rw[k (by omega)];by_cases c:m=0
  ·subst c;obtain rfl:=oI o
   simp_all[Po,add_zero]
  ·rw[if_neg (by omega),S.zero_add]
   grind
end
theorem Mc{M:gr K}{x y:List Int}(g:kT M)(C:M.start<M.bJ.length)(t:∀s∈x,s≠0)(A:∀s∈y,s≠0){w:K}(h:eF (aq S) M x y=some w):w=S.mul M.lead (bN.val S (eP S M) x y M.start):=by
 unfold eF at h
 cases k:dW (aq S) M with
 |none=>grind
 | some B=>
  rw[k]at h;dsimp only at h;have m:(bw (aq S) M.bJ.length).length=M.bJ.length:=length_replicate;have f:oO M x y (List.replicate (x.length+1) (List.replicate (y.length+1) (bw (aq S) M.bJ.length))):=by
   have e:∀i,i<=x.length->(List.replicate (x.length+1) (List.replicate (y.length+1) (bw (aq S) M.bJ.length))).getD i []=List.replicate (y.length+1) (bw (aq S) M.bJ.length):=λi d=>by
    rw[gD,List.getElem?_replicate,if_pos (by omega)];rfl
   refine⟨length_replicate,λi d=>by rw[e i d];exact length_replicate,λi j d D=>?_⟩;unfold dM;rw[e i d,gD,List.getElem?_replicate,if_pos (by omega)];exact m
  have z:oO M x y (kn (aq S) M x y):=f.set (Nat.zero_le _) (Nat.zero_le _) (by rw[length_set];exact m);obtain⟨T,u,l,r⟩:=Ji g t A k (x.length+1) 0 (kn (aq S) M x y) (by omega) z;rw[u]at h;dsimp only at h;rw[XB M _ (l.cell _ _ (Nat.le_refl _) (Nat.le_refl _)),l.cell _ _ (Nat.le_refl _) (Nat.le_refl _),<-r (by omega)]at h;obtain rfl:=oI h;have o:∀a b,a<=x.length->b<=y.length->zw S M x y (kn (aq S) M x y) a b=if a=0/\b=0 then S.mul M.lead (bN.val S (eP S M) x y M.start)else S.zero:=λa b v n=>by
   unfold zw kn;rw[f.zM (Nat.zero_le _) (Nat.zero_le _)];by_cases c:a=0/\b=0
   ·rw[if_pos c,if_pos c,c.1,c.2];unfold dot;rw[ax (g:=λq=>if M.start<=q/\q<M.start+1 then S.mul M.lead (bN.val S (eP S M) x y q)else S.zero) λq _=>by
     have:=uQ (S:=S) (p:=q) M.lead (show M.start<(bw (aq S) M.bJ.length).length by omega);rw[this];by_cases e:q=M.start
     ·rw[if_pos e,if_pos (by omega)];rfl
     ·rw[if_neg e,if_neg (by omega)];have:vec S (bw (aq S) M.bJ.length) q=S.zero:=qR _ _;rw[this,S.zero_mul]]
    rw[sL (λq=>S.mul M.lead (bN.val S (eP S M) x y q)) (by omega:M.start+1<=M.bJ.length)];exact S.zero_add _
   ·rw[if_neg c,if_neg c];unfold dot;rw[ax (g:=λ_=>S.zero) λq _=>?_,dR];unfold dM;have e:(List.replicate (x.length+1) (List.replicate (y.length+1) (bw (aq S) M.bJ.length))).getD a []=List.replicate (y.length+1) (bw (aq S) M.bJ.length):=by
     rw[gD,List.getElem?_replicate,if_pos (by omega)];rfl
    rw[e,gD,List.getElem?_replicate,if_pos (by omega)];have:vec S (bw (aq S) M.bJ.length) q=S.zero:=qR _ _;show S.mul (vec S (bw (aq S) M.bJ.length) q) _=_;rw[this,S.zero_mul]
  unfold iR;rw[ax (g:=λa=>S.bS (λb=>if a=0/\b=0 then S.mul M.lead (bN.val S (eP S M) x y M.start)else S.zero) (y.length+1)) λa v=>ax λb n=>by rw[if_pos (by omega),o a b (by omega) (by omega)]];simp[rE]
end
end Go.Num
end
section
namespace Go.Proofs.YtaaichlgdgjgjaaGreatDoor
open Go Go.Ab Go.RowKit
theorem Yv:(((Tryz.prog.funcs.toList.drop 0).take 40).all λf=>fN f)=true:=by kernel_rfl
theorem Yw:(((Tryz.prog.funcs.toList.drop 40).take 40).all λf=>fN f)=true:=by kernel_rfl
theorem Yx:(((Tryz.prog.funcs.toList.drop 80).take 40).all λf=>fN f)=true:=by kernel_rfl
theorem Yy:(((Tryz.prog.funcs.toList.drop 120).take 40).all λf=>fN f)=true:=by kernel_rfl
theorem Yz:(((Tryz.prog.funcs.toList.drop 160).take 40).all λf=>fN f)=true:=by kernel_rfl
theorem YA:(((Tryz.prog.funcs.toList.drop 200).take 40).all λf=>fN f)=true:=by kernel_rfl
theorem YC:(((Tryz.prog.funcs.toList.drop 240).take 40).all λf=>fN f)=true:=by kernel_rfl
theorem Qj:Tryz.prog.funcs.toList.length=259:=by kernel_rfl
theorem TO(i:Nat)(c:Func)(h:Tryz.prog.funcs.toList[i]?=some c):fN c=true:=by
 have b:∀a,((Tryz.prog.funcs.toList.drop a).take 40).all (λf=>fN f)=true->a<=i->i<a+40->fN c=true:=λa g d e=>by
  refine all_eq_true.1 g c (List.mem_of_getElem? (i:=i-a) ?_);rw[List.getElem?_take,if_pos (by omega),List.getElem?_drop,show a+(i-a)=i by omega];exact h
 have j:i<259:=by
  have:=(List.getElem?_eq_some_iff.1 h).1;rw[Qj]at this;exact this
 by_cases m:i<40
 ·exact b 0 Yv (by omega) (by omega)
 by_cases d:i<80
 ·exact b 40 Yw (by omega) (by omega)
 by_cases e:i<120
 ·exact b 80 Yx (by omega) (by omega)
 by_cases k:i<160
 ·exact b 120 Yy (by omega) (by omega)
 by_cases l:i<200
 ·exact b 160 Yz (by omega) (by omega)
 by_cases n:i<240
 ·exact b 200 YA (by omega) (by omega)
 exact b 240 YC (by omega) (by omega)
theorem QK:(Tryz.prog.funcs.toList.all λf=> !(f.name == "runtime.NumGoroutine"))=true:=by kernel_rfl
theorem O8:Hm Tryz.prog:={
 names:=λ_ a h=>by
  have b:a∈Tryz.prog.funcs.toList:=by
   rw[<-Array.getElem?_toList]at h;exact List.mem_of_getElem? h
  have:=all_eq_true.1 QK a b;simpa using this
 aax:=λf a h=>TO f a (by rw[Array.getElem?_toList];exact h) }
def ND:Code->Code
 |.seq a _=>a
 |c=>c
def Ix:Code->Code
 |.seq _ b=>b
 |c=>c
noncomputable def F0:Code:=(Tryz.f166.body).getD .skip
theorem HI(a:Array Value)(w:World)(h:a.size=2):CallsDIn Fence.wide 0 Tryz.prog 183 a .returning w λe c b=>(∃v,e = .returned v)/\c = .returning/\Below w.heap.size w b/\w.drawn<=b.drawn:=
 YH (n:=2) Tryz.func183 rfl rfl (by kernel_rfl) a w h
end Go.Proofs.YtaaichlgdgjgjaaGreatDoor
end
section
namespace Go.Proofs.YtaaichlgdgjgjaaGreatDoor
open Go Go.Ab Go.Num
def Xw:Nat->Bool:=λg=>Nat.beq g 1
noncomputable def prS:FuncId->Option vC:=λf=>TA (Nat.beq f 81) (some D6) (TA (Nat.beq f 222) (some re) (TA (Nat.beq f 226) (some pE) (TA (Nat.beq f 166) (some (xe Tryz.prog Xw Tryz.f166 (ND F0) (Ix (Ix F0)) 5)) none)))
noncomputable def SS:Sx:=⟨Tryz.prog,Xw,prS⟩
theorem afg:aG Tryz.prog 22=some 1:=by kernel_rfl
abbrev lI(h:ae)(p:Addr)(K:Int->Prop):Prop:=xI .i64 (aj SS.P 3 h (.pointer (some p))) K
abbrev lS(h:ae)(p:Addr)(K:List UInt8->Prop):Prop:=xS (aj SS.P 9 h (.pointer (some p))) K
abbrev lB(h:ae)(p:Addr)(K:Bool->Prop):Prop:=xB (aj SS.P 4 h (.pointer (some p))) K
abbrev lL(t:TypeId)(h:ae)(p:Addr)(K:Option Addr->Nat->Nat->Prop):Prop:=xL (aj SS.P t h (.pointer (some p))) K
abbrev lA(t:TypeId)(h:ae)(v:Value)(K:List Value->Prop):Prop:=xA (aj SS.P t h v) K
abbrev fP(t:TypeId)(v:Value)(i:Nat)(K:Addr->Prop):Prop:=xP (aE SS.P t v i) K
abbrev iP(t:TypeId)(v i:Value)(K:Addr->Prop):Prop:=xP (aD SS.P t v i) K
variable{s:List UInt8}{t:List UInt8}{z:Int}{v:Value}{w:Value}{h:ae}{Q:VH}{b:Bool}
noncomputable def Qa:FD:=cF Tryz.f191 []
theorem Ms(l m:LB)(h:ae)(Q:VH)(e:FW SS 204 [(strOf l),(strOf m)] h λc d=>yB c λb=>au (!b) (Q (.tuple ⟨[(strOf l),(.bool false)]⟩) d) (xS (bF SS.P 9 (strOf l) (some (.int .i64 ((m:LB).length:Int))) none none d) λa=>Q (.tuple ⟨[(strOf a),(.bool true)]⟩) d)):FW SS 191 [(strOf l),(strOf m)] h Q:=cI Qa Tryz.func191 (ai e)
noncomputable def TL:FD:=cF Tryz.f177 []
theorem Qb(l m:LB)(h:ae)(Q:VH)(e:FW SS 191 [(strOf l),(strOf m)] h λc d=>∃b:LB,∃a:Bool,c=(.tuple ⟨[(strOf b),(.bool a)]⟩)/\Q (.tuple ⟨[(strOf b),(.bool a)]⟩) d):FW SS 177 [(strOf l),(strOf m)] h Q:=cI TL Tryz.func177 (ai e)
noncomputable def MJ:FD:=cF Tryz.f214 []
theorem Kc(l:LB)(c:Int)(h:ae)(Q:VH)(d:FW SS 226 [(strOf l),(.int .u8 c)] h λb c=>yI .i64 b λa=>Q (.int .i64 a) c):FW SS 214 [(strOf l),(.int .u8 c)] h Q:=cI MJ Tryz.func214 (ai d)
noncomputable def Ui:FD:=cF Tryz.f205 []
theorem Qp(l:LB)(h:ae)(Q:VH)(e:au (([47]:LB)==l) (Q (.int .i64 0) h) (xI .u8 (bP SS.P 9 (strOf [47]) (.int .i64 0)) λd=>FW SS 214 [(strOf l),(.int .u8 d)] h λb c=>yI .i64 b λa=>Q (.int .i64 a) c)):FW SS 205 [(strOf l),(strOf [47])] h Q:=cI Ui Tryz.func205 (ai e)
noncomputable def abm:FD:=cF Tryz.f192 []
theorem Yq(l:LB)(h:ae)(Q:VH)(f:FW SS 205 [(strOf l),(strOf [47])] h λd e=>yI .i64 d λc=>au (decide ((c:Int)>=0)) (xS (bF SS.P 9 (strOf l) none (some (.int .i64 c)) none (room e 12)) λb=>xS (bF SS.P 9 (strOf l) (some (.int .i64 (wrap .i64 (c+1)))) none none (room e 12)) λa=>Q (.tuple ⟨[(strOf b),(strOf a),(.bool true)]⟩) (room e 12)) (Q (.tuple ⟨[(strOf l),(strOf []),(.bool false)]⟩) e)):FW SS 192 [(strOf l),(strOf [47])] h Q:=cI abm Tryz.func192 (ai f)
noncomputable def adj:FD:=cF Tryz.f178 []
theorem abn(l:LB)(h:ae)(Q:VH)(f:FW SS 192 [(strOf l),(strOf [47])] h λd e=>∃c:LB,∃b:LB,∃a:Bool,d=(.tuple ⟨[(strOf c),(strOf b),(.bool a)]⟩)/\Q (.tuple ⟨[(strOf c),(strOf b),(.bool a)]⟩) e):FW SS 178 [(strOf l),(strOf [47])] h Q:=cI adj Tryz.func178 (ai f)
noncomputable def jK:FD:=cF Tryz.f116 [([1,0,1,0,0],[0,1,5])]
abbrev jo(l:LB)(c:Int)(i:Nat):LV:=[(strOf l),(.int .u8 c),(iA i)]
theorem Ii(l:LB)(c:Int)(h:ae)(Q:VH)(a:LL SS jK [1,0,1,0,0] (jo l c 0) h (KK SS jK [1,0,1,0] [] (EE SS jK Q))):FW SS 116 [(strOf l),(.int .u8 c)] h Q:=cI jK Tryz.func116 (ai a)
theorem uj(l:LB)(c:Int)  (d:Nat->Nat->ae->Prop) (Q:VH) (step:∀(b:Nat)(i:Nat)(f:Nat->Value)(h:ae),d b i h->au (decide (((i:Int):Int)<((l:LB).length:Int))) (xI .u8 (bP SS.P 9 (strOf l) (iA i)) λa=>au (((a:Int)==c)) (Q (iA i) h) (aJ (fs (jo l c) d) b [(strOf l),(.int .u8 c),(.int .i64 (wrap .i64 ((i:Int)+1)))] h)) (Q (.int .i64 (-1)) h)) (b:Nat) {i:Nat} {h:ae} (e:d b i h):LL SS jK [1,0,1,0,0] (jo l c i) h (KK SS jK [1,0,1,0] [] (EE SS jK Q)):=
 dc (jo l c) d (λb i f h e=>ai (step b i f h e)) b e
noncomputable def KS:FD:=cF Tryz.f117 []
theorem Il(l:LB)(h:ae)(Q:VH)(d:au (decide ((((l:LB).length:Int):Int)<=400)) (FW SS 136 [(strOf l)] h λb c=>yB b λa=>Q (.bool a) c) (Q (.bool false) h)):FW SS 117 [(strOf l)] h Q:=cI KS Tryz.func117 (ai d)
noncomputable def av:FD:=cF Tryz.f94 []
abbrev Bl(l:LB)(cc:Code)(h:ae)(Q:VH):Prop:=au (decide ((((l:LB).length:Int):Int)>0)) (xI .u8 (bP SS.P 9 (strOf l) (.int .i64 0)) λc=>au (((c:Int)==45)) (xS (bF SS.P 9 (strOf l) (some (.int .i64 1)) none none h) λe=>FW SS 116 [(strOf e),(.int .u8 47)] h λr g=>yI .i64 r λd=>au (decide ((d:Int)>=0)) (xS (bF SS.P 9 (strOf e) (some (.int .i64 (wrap .i64 (d+1)))) none none g) λp=>xS (bF SS.P 9 (strOf e) none (some (.int .i64 d)) none g) λo=>wpS SS av.nm av.ms [1,1,1,1,1,1] cc (uN [(strOf l),undef,(.bool false),(strOf []),(strOf []),(.bool false),(strOf o),(strOf p),(.bool (((c:Int)==45))),(.int .i64 d),undef,undef,(strOf l),(strOf l),(.int .i64 ((l:LB).length:Int)),(.bool (decide ((((l:LB).length:Int):Int)>0))),(.bool true),(strOf l),(.int .u8 c),(.bool (((c:Int)==45))),(.bool (((c:Int)==45))),(.bool (((c:Int)==45))),(strOf l),(strOf e),(strOf e),(.int .i64 d),(.int .i64 d),(.bool (decide ((d:Int)>=0))),(strOf e),(.int .i64 d),(.int .i64 (wrap .i64 (d+1))),(strOf p),(strOf e),(.int .i64 d),(strOf o)] 46) g (EE SS av Q)) (wpS SS av.nm av.ms [1,1,1,1,1,1] cc (uN [(strOf l),undef,(.bool false),(strOf []),(strOf []),(.bool false),(strOf e),(strOf [49]),(.bool (((c:Int)==45))),(.int .i64 d),undef,undef,(strOf l),(strOf l),(.int .i64 ((l:LB).length:Int)),(.bool (decide ((((l:LB).length:Int):Int)>0))),(.bool true),(strOf l),(.int .u8 c),(.bool (((c:Int)==45))),(.bool (((c:Int)==45))),(.bool (((c:Int)==45))),(strOf l),(strOf e),(strOf e),(.int .i64 d),(.int .i64 d),(.bool (decide ((d:Int)>=0)))] 53) g (EE SS av Q))) (FW SS 116 [(strOf l),(.int .u8 47)] h λs i=>yI .i64 s λb=>au (decide ((b:Int)>=0)) (xS (bF SS.P 9 (strOf l) (some (.int .i64 (wrap .i64 (b+1)))) none none i) λn=>xS (bF SS.P 9 (strOf l) none (some (.int .i64 b)) none i) λk=>wpS SS av.nm av.ms [1,1,1,1,1,1] cc (uN [(strOf l),undef,(.bool false),(strOf []),(strOf []),(.bool false),(strOf k),(strOf n),(.bool (((c:Int)==45))),(.int .i64 b),undef,undef,(strOf l),(strOf l),(.int .i64 ((l:LB).length:Int)),(.bool (decide ((((l:LB).length:Int):Int)>0))),(.bool true),(strOf l),(.int .u8 c),(.bool (((c:Int)==45))),(.bool (((c:Int)==45))),(.bool (((c:Int)==45))),undef,undef,(strOf l),(.int .i64 b),(.int .i64 b),(.bool (decide ((b:Int)>=0))),(strOf l),(.int .i64 b),(.int .i64 (wrap .i64 (b+1))),(strOf n),(strOf l),(.int .i64 b),(strOf k)] 46) i (EE SS av Q)) (wpS SS av.nm av.ms [1,1,1,1,1,1] cc (uN [(strOf l),undef,(.bool false),(strOf []),(strOf []),(.bool false),(strOf l),(strOf [49]),(.bool (((c:Int)==45))),(.int .i64 b),undef,undef,(strOf l),(strOf l),(.int .i64 ((l:LB).length:Int)),(.bool (decide ((((l:LB).length:Int):Int)>0))),(.bool true),(strOf l),(.int .u8 c),(.bool (((c:Int)==45))),(.bool (((c:Int)==45))),(.bool (((c:Int)==45))),undef,undef,(strOf l),(.int .i64 b),(.int .i64 b),(.bool (decide ((b:Int)>=0)))] 53) i (EE SS av Q)))) (FW SS 116 [(strOf l),(.int .u8 47)] h λq f=>yI .i64 q λa=>au (decide ((a:Int)>=0)) (xS (bF SS.P 9 (strOf l) (some (.int .i64 (wrap .i64 (a+1)))) none none f) λm=>xS (bF SS.P 9 (strOf l) none (some (.int .i64 a)) none f) λj=>wpS SS av.nm av.ms [1,1,1,1,1,1] cc (uN [(strOf l),undef,(.bool false),(strOf []),(strOf []),(.bool false),(strOf j),(strOf m),(.bool false),(.int .i64 a),undef,undef,(strOf l),(strOf l),(.int .i64 ((l:LB).length:Int)),(.bool (decide ((((l:LB).length:Int):Int)>0))),(.bool false),undef,undef,undef,(.bool false),(.bool false),undef,undef,(strOf l),(.int .i64 a),(.int .i64 a),(.bool (decide ((a:Int)>=0))),(strOf l),(.int .i64 a),(.int .i64 (wrap .i64 (a+1))),(strOf m),(strOf l),(.int .i64 a),(strOf j)] 46) f (EE SS av Q)) (wpS SS av.nm av.ms [1,1,1,1,1,1] cc (uN [(strOf l),undef,(.bool false),(strOf []),(strOf []),(.bool false),(strOf l),(strOf [49]),(.bool false),(.int .i64 a),undef,undef,(strOf l),(strOf l),(.int .i64 ((l:LB).length:Int)),(.bool (decide ((((l:LB).length:Int):Int)>0))),(.bool false),undef,undef,undef,(.bool false),(.bool false),undef,undef,(strOf l),(.int .i64 a),(.int .i64 a),(.bool (decide ((a:Int)>=0)))] 53) f (EE SS av Q)))
theorem Ik(l:LB)(h:ae)(Q:VH)(a:Bl l (fQ [1,1,1,1,1,1] av.body) h Q):FW SS 94 [(strOf l)] h Q:=by
 have e:∀cc,Bl l cc h Q=wpS SS av.nm av.ms [] (setAt [1,1,1,1,1,1] cc av.body) ([(strOf l)]++List.replicate (av.nm-([(strOf l)]:LV).length) undef) h (EE SS av Q):=λcc=>by kernel_rfl
 have e:=e (fQ [1,1,1,1,1,1] av.body);rw[ja]at e;exact cI av Tryz.func94 (ai a e)
abbrev uk(n d:LB)(neg:Bool)(a:Int)(cc:Code)(Z x1 X x3 Y W K L m H x P U G O M o l k w z V J B s I D p S i j x7 y9 u5 u4 y8 y3 y1 y6 z2 y0 x9 u0 u6 u3 z4 u2 z5 y5 x8 z9 x6 u1 z6 z7 y7 z8 y4 z1 z3 z0 y2 q t C r u A T E F y f g v N R:Value)(h:ae)(Q:VH):Prop:=FW SS 117 [(strOf n)] h λv1 h2=>yB v1 λe=>au (!e) (Q (.tuple ⟨[(.bool false),(strOf []),(strOf []),(.bool false)]⟩) h2) (FW SS 117 [(strOf d)] h2 λv4 c=>yB v4 λb=>au (!b) (Q (.tuple ⟨[(.bool false),(strOf []),(strOf []),(.bool false)]⟩) c) (au ((d:LB)==[48]) (Q (.tuple ⟨[(.bool false),(strOf []),(strOf []),(.bool false)]⟩) c) (au ((n:LB)==[48]) (au neg (Q (.tuple ⟨[(.bool false),(strOf []),(strOf []),(.bool false)]⟩) c) (au (decide ((a:Int)>=0)) (Q (.tuple ⟨[(.bool false),(strOf []),(strOf []),(.bool false)]⟩) c) (au ((d:LB)==[49]) (au (decide ((a:Int)>=0)) (Q (.tuple ⟨[(.bool false),(strOf []),(strOf []),(.bool false)]⟩) c) (wpS SS av.nm av.ms [1,1,1,1,1,1,1] cc [Z,x1,X,x3,Y,W,(strOf n),(strOf d),(.bool neg),(.int .i64 a),K,L,m,H,x,P,U,G,O,M,o,l,k,w,z,V,J,B,s,I,D,p,S,i,j,(strOf n),(.bool e),(.bool (!e)),(.bool false),(strOf d),(.bool b),(.bool (!b)),(.bool (!b)),(.bool false),(strOf d),(.bool ((d:LB)==[48])),(.bool ((d:LB)==[48])),(.bool false),(strOf n),(.bool ((n:LB)==[48])),(.bool true),(.bool neg),(.bool false),(.int .i64 a),(.bool (decide ((a:Int)>=0))),(.bool (decide ((a:Int)>=0))),(.bool (decide ((a:Int)>=0))),(.bool (decide ((a:Int)>=0))),(.bool false),(strOf d),(.bool ((d:LB)==[49])),(.bool true),(.int .i64 a),(.bool (decide ((a:Int)>=0))),(.bool (decide ((a:Int)>=0))),(.bool (decide ((a:Int)>=0))),q,t,C,r,u,A,T,E,F,y,f,g,v,N,R] c (EE SS av Q))) (wpS SS av.nm av.ms [1,1,1,1,1,1,1] cc [Z,x1,X,x3,Y,W,(strOf n),(strOf d),(.bool neg),(.int .i64 a),K,L,m,H,x,P,U,G,O,M,o,l,k,w,z,V,J,B,s,I,D,p,S,i,j,(strOf n),(.bool e),(.bool (!e)),(.bool false),(strOf d),(.bool b),(.bool (!b)),(.bool (!b)),(.bool false),(strOf d),(.bool ((d:LB)==[48])),(.bool ((d:LB)==[48])),(.bool false),(strOf n),(.bool ((n:LB)==[48])),(.bool true),(.bool neg),(.bool false),(.int .i64 a),(.bool (decide ((a:Int)>=0))),(.bool (decide ((a:Int)>=0))),(.bool (decide ((a:Int)>=0))),(.bool (decide ((a:Int)>=0))),(.bool false),(strOf d),(.bool ((d:LB)==[49])),(.bool false),undef,undef,(.bool false),(.bool false),q,t,C,r,u,A,T,E,F,y,f,g,v,N,R] c (EE SS av Q))))) (au ((d:LB)==[49]) (au (decide ((a:Int)>=0)) (Q (.tuple ⟨[(.bool false),(strOf []),(strOf []),(.bool false)]⟩) c) (wpS SS av.nm av.ms [1,1,1,1,1,1,1] cc [Z,x1,X,x3,Y,W,(strOf n),(strOf d),(.bool neg),(.int .i64 a),K,L,m,H,x,P,U,G,O,M,o,l,k,w,z,V,J,B,s,I,D,p,S,i,j,(strOf n),(.bool e),(.bool (!e)),(.bool false),(strOf d),(.bool b),(.bool (!b)),(.bool (!b)),(.bool false),(strOf d),(.bool ((d:LB)==[48])),(.bool ((d:LB)==[48])),(.bool false),(strOf n),(.bool ((n:LB)==[48])),(.bool false),undef,undef,undef,undef,undef,(.bool false),(.bool false),(.bool false),(strOf d),(.bool ((d:LB)==[49])),(.bool true),(.int .i64 a),(.bool (decide ((a:Int)>=0))),(.bool (decide ((a:Int)>=0))),(.bool (decide ((a:Int)>=0))),q,t,C,r,u,A,T,E,F,y,f,g,v,N,R] c (EE SS av Q))) (wpS SS av.nm av.ms [1,1,1,1,1,1,1] cc [Z,x1,X,x3,Y,W,(strOf n),(strOf d),(.bool neg),(.int .i64 a),K,L,m,H,x,P,U,G,O,M,o,l,k,w,z,V,J,B,s,I,D,p,S,i,j,(strOf n),(.bool e),(.bool (!e)),(.bool false),(strOf d),(.bool b),(.bool (!b)),(.bool (!b)),(.bool false),(strOf d),(.bool ((d:LB)==[48])),(.bool ((d:LB)==[48])),(.bool false),(strOf n),(.bool ((n:LB)==[48])),(.bool false),undef,undef,undef,undef,undef,(.bool false),(.bool false),(.bool false),(strOf d),(.bool ((d:LB)==[49])),(.bool false),undef,undef,(.bool false),(.bool false),q,t,C,r,u,A,T,E,F,y,f,g,v,N,R] c (EE SS av Q))))))
theorem BP{neg:Bool}{x2 x3 x4 x5 y4 y6 x y0 N z2 z9 x9 z1 y8 y p m M P u2 y3 U H y2 Y D z7 f l d C u0 z6 B o k u R j i y7 u1 z4 V z3 X r g y5 a y9 Z x7 A y1 q K S G n E I W F J T z8 x6 x8 O b c L z0 z5:Value}(hx:uk s t neg z (fQ [1,1,1,1,1,1,1] av.body) v w x2 x3 x4 x5 y4 y6 x y0 N z2 z9 x9 z1 y8 y p m M P u2 y3 U H y2 Y D z7 f l d C u0 z6 B o k u R j i y7 u1 z4 V z3 X r g y5 a y9 Z x7 A y1 q K S G n E I W F J T z8 x6 x8 O b c L z0 z5 h Q):TT SS av [1,1,1,1,1,1] [v,w,x2,x3,x4,x5,(strOf s),(strOf t),(.bool neg),(.int .i64 z),y4,y6,x,y0,N,z2,z9,x9,z1,y8,y,p,m,M,P,u2,y3,U,H,y2,Y,D,z7,f,l,d,C,u0,z6,B,o,k,u,R,j,i,y7,u1,z4,V,z3,X,r,g,y5,a,y9,Z,x7,A,y1,q,K,S,G,n,E,I,W,F,J,T,z8,x6,x8,O,b,c,L,z0,z5] h (EE SS av Q):=by
 have e:∀cc,uk s t neg z cc v w x2 x3 x4 x5 y4 y6 x y0 N z2 z9 x9 z1 y8 y p m M P u2 y3 U H y2 Y D z7 f l d C u0 z6 B o k u R j i y7 u1 z4 V z3 X r g y5 a y9 Z x7 A y1 q K S G n E I W F J T z8 x6 x8 O b c L z0 z5 h Q=wpS SS av.nm av.ms [1,1,1,1,1,1] (setAt [1] cc (fQ [1,1,1,1,1,1] av.body)) [v,w,x2,x3,x4,x5,(strOf s),(strOf t),(.bool neg),(.int .i64 z),y4,y6,x,y0,N,z2,z9,x9,z1,y8,y,p,m,M,P,u2,y3,U,H,y2,Y,D,z7,f,l,d,C,u0,z6,B,o,k,u,R,j,i,y7,u1,z4,V,z3,X,r,g,y5,a,y9,Z,x7,A,y1,q,K,S,G,n,E,I,W,F,J,T,z8,x6,x8,O,b,c,L,z0,z5] h (EE SS av Q):=λcc=>by kernel_rfl
 have e:=e (fQ [1,1,1,1,1,1,1] av.body);have ec:(fQ [1,1,1,1,1,1,1] av.body)=fQ [1] (fQ [1,1,1,1,1,1] av.body):=by kernel_rfl
 have es:setAt [1] (fQ [1,1,1,1,1,1,1] av.body) (fQ [1,1,1,1,1,1] av.body)=fQ [1,1,1,1,1,1] av.body:=by rw[ec,ja]
 rw[es]at e;exact ai hx e
theorem BQ{neg:Bool}{x2 x3 x4 x5 y7 y9 B y3 R z5 u2 y2 z4 z1 C u p P T u5 y6 X K y5 x7 G u0 j o i F u3 z9 E r n A U m l z0 u4 z7 Y z6 x6 y k y8 d z2 x8 y0 D y4 x N V J q H L Z I M W u1 x9 y1 S f g O z3 z8:Value}(hx:FW SS 118 [(strOf s),(strOf t)] h λc e=>∃b:LB,∃a:Int,c=(.tuple ⟨[(strOf b),(.int .i64 a)]⟩)/\au (!((b:LB)==[49])) (au (!((t:LB)==[49])) (Q (.tuple ⟨[(.bool false),(strOf []),(strOf []),(.bool false)]⟩) e) (Q (.tuple ⟨[(.bool neg),(strOf s),(strOf t),(.bool true)]⟩) e)) (Q (.tuple ⟨[(.bool neg),(strOf s),(strOf t),(.bool true)]⟩) e)):TT SS av [1,1,1,1,1,1,1] [v,w,x2,x3,x4,x5,(strOf s),(strOf t),(.bool neg),(.int .i64 z),y7,y9,B,y3,R,z5,u2,y2,z4,z1,C,u,p,P,T,u5,y6,X,K,y5,x7,G,u0,j,o,i,F,u3,z9,E,r,n,A,U,m,l,z0,u4,z7,Y,z6,x6,y,k,y8,d,z2,x8,y0,D,y4,x,N,V,J,q,H,L,Z,I,M,W,u1,x9,y1,S,f,g,O,z3,z8] h (EE SS av Q):=ai hx
noncomputable def KU:FD:=cF Tryz.f71 []
theorem Io(l:LB)(h:ae)(Q:VH)(g:FW SS 94 [(strOf l)] h λe f=>∃d:Bool,∃c:LB,∃b:LB,∃a:Bool,e=(.tuple ⟨[(.bool d),(strOf c),(strOf b),(.bool a)]⟩)/\Q (.bool a) f):FW SS 71 [(strOf l)] h Q:=cI KU Tryz.func71 (ai g)
noncomputable def KT:FD:=cF Tryz.f96 []
theorem Im(l m:LB)(h:ae)(Q:VH)(e:FW SS 122 [(strOf l),(strOf m)] h λc d=>∃b:LB,∃a:Int,c=(.tuple ⟨[(strOf b),(.int .i64 a)]⟩)/\Q (strOf b) d):FW SS 96 [(strOf l),(strOf m)] h Q:=cI KT Tryz.func96 (ai e)
noncomputable def Rw:FD:=cF Tryz.f95 []
theorem Nr(p:Bool)(l:LB)(q:Bool)(m:LB)(h:ae)(Q:VH)(i:au (p==q) (FW SS 119 [(strOf l),(strOf m)] h λc d=>∃b:LB,∃a:Int,c=(.tuple ⟨[(strOf b),(.int .i64 a)]⟩)/\Q (.tuple ⟨[(.bool p),(strOf b)]⟩) d) (FW SS 120 [(strOf l),(strOf m)] h λf g=>yI .i64 f λe=>au (decide ((e:Int)>=0)) (FW SS 121 [(strOf l),(strOf m)] g λc d=>∃b:LB,∃a:Int,c=(.tuple ⟨[(strOf b),(.int .i64 a)]⟩)/\Q (.tuple ⟨[(.bool p),(strOf b)]⟩) d) (FW SS 121 [(strOf m),(strOf l)] g λc d=>∃b:LB,∃a:Int,c=(.tuple ⟨[(strOf b),(.int .i64 a)]⟩)/\Q (.tuple ⟨[(.bool q),(strOf b)]⟩) d))):FW SS 95 [(.bool p),(strOf l),(.bool q),(strOf m)] h Q:=cI Rw Tryz.func95 (ai i)
noncomputable def Rv:FD:=cF Tryz.f72 []
theorem Nq(l m:LB)(h:ae)(Q:VH)(w:FW SS 94 [(strOf l)] h λu v=>∃t:Bool,∃s:LB,∃r:LB,∃q:Bool,u=(.tuple ⟨[(.bool t),(strOf s),(strOf r),(.bool q)]⟩)/\FW SS 94 [(strOf m)] v λo p=>∃n:Bool,∃m:LB,∃l:LB,∃k:Bool,o=(.tuple ⟨[(.bool n),(strOf m),(strOf l),(.bool k)]⟩)/\au (!q) (Q (.int .i64 0) p) (au (!k) (Q (.int .i64 0) p) (FW SS 96 [(strOf s),(strOf l)] p λi j=>yS i λh=>FW SS 96 [(strOf m),(strOf r)] j λf g=>yS f λe=>FW SS 95 [(.bool t),(strOf h),(.bool (!n)),(strOf e)] g λc d=>∃b:Bool,∃a:LB,c=(.tuple ⟨[(.bool b),(strOf a)]⟩)/\au ((a:LB)==[48]) (Q (.int .i64 0) d) (au b (Q (.int .i64 (-1)) d) (Q (.int .i64 1) d))))):FW SS 72 [(strOf l),(strOf m)] h Q:=cI Rv Tryz.func72 (ai w)
noncomputable def Rn:FD:=cF Tryz.f142 []
theorem Nl(l:LB)(e:Int)(h:ae)(Q:VH)(a:au (((e:Int) !=0)) (xA (bd SS.P 176 []) λ_=>False) (Q (strOf l) h)):FW SS 142 [(strOf l),(.int .i64 e)] h Q:=cI Rn Tryz.func142 (ai a)
noncomputable def al:FD:=cF Tryz.f145 []
abbrev DT(l:LB)(cc:Code)(h:ae)(Q:VH):Prop:=xN (br SS.P 155) h λm j=>FW SS 177 [(strOf l),(strOf [45])] j λg k=>∃c:LB,∃d:Bool,g=(.tuple ⟨[(strOf c),(.bool d)]⟩)/\FW SS 178 [(strOf c),(strOf [47])] k λi f=>∃e:LB,∃b:LB,∃a:Bool,i=(.tuple ⟨[(strOf e),(strOf b),(.bool a)]⟩)/\au (!a) (wpS SS al.nm al.ms [1,1,1,1] cc (uN [(strOf l),undef,(pA (h.next)),(.bool false),(strOf c),(.bool d),(strOf e),(strOf [49]),(.bool a),undef,undef,(.tuple ⟨[(strOf c),(.bool d)]⟩),(strOf l),(.tuple ⟨[(strOf c),(.bool d)]⟩),(strOf c),(.bool d),(.tuple ⟨[(strOf e),(strOf b),(.bool a)]⟩),(strOf c),(.tuple ⟨[(strOf e),(strOf b),(.bool a)]⟩),(strOf e),(strOf b),(.bool a),(.bool a),(.bool (!a))] 53) f (EE SS al Q)) (wpS SS al.nm al.ms [1,1,1,1] cc (uN [(strOf l),undef,(pA (h.next)),(.bool false),(strOf c),(.bool d),(strOf e),(strOf b),(.bool a),undef,undef,(.tuple ⟨[(strOf c),(.bool d)]⟩),(strOf l),(.tuple ⟨[(strOf c),(.bool d)]⟩),(strOf c),(.bool d),(.tuple ⟨[(strOf e),(strOf b),(.bool a)]⟩),(strOf c),(.tuple ⟨[(strOf e),(strOf b),(.bool a)]⟩),(strOf e),(strOf b),(.bool a),(.bool a),(.bool (!a))] 53) f (EE SS al Q))
theorem KO(l:LB)(h:ae)(Q:VH)(a:DT l (fQ [1,1,1,1] al.body) h Q):FW SS 145 [(strOf l)] h Q:=by
 have e:∀cc,DT l cc h Q=wpS SS al.nm al.ms [] (setAt [1,1,1,1] cc al.body) ([(strOf l)]++List.replicate (al.nm-([(strOf l)]:LV).length) undef) h (EE SS al Q):=λcc=>by kernel_rfl
 have e:=e (fQ [1,1,1,1] al.body);rw[ja]at e;exact cI al Tryz.func145 (ai a e)
abbrev wb(n d:LB)(neg r:Bool)(p:Addr)(cc:Code)(x0 x1 x3 x4 x9 Z x5 v X G y1 y6 W y0 x7 w q m F z9 u9 u4 u1 z8 u3 u2 z7 u7 z0 z2 y9 z6 u8 u6 z5 z3 z1 u I l j x6 y7 y3 N y2 P t i x2 f x8 S U x Y s E J A o y C O z D K y4 T V H g:Value)(h:ae)(Q:VH):Prop:=FW SS 171 [(strOf n)] h λv1 e=>yB v1 λc=>au (!c) (xA (bd SS.P 155 []) λc4=>xU (ah SS.P 155 (.pointer (some p)) (.agg ⟨c4⟩) e) e λu5 g6=>ef SS [((.pointer (some p)),some 155),((.bool false),none)] g6 Q) (FW SS 171 [(strOf d)] e λv7 a=>yB v7 λb=>au (!b) (xA (bd SS.P 155 []) λy5=>xU (ah SS.P 155 (.pointer (some p)) (.agg ⟨y5⟩) a) a λz4 k=>ef SS [((.pointer (some p)),some 155),((.bool false),none)] k Q) (au (decide ((((n:LB).length:Int):Int)>400)) (xA (bd SS.P 155 []) λM=>xU (ah SS.P 155 (.pointer (some p)) (.agg ⟨M⟩) a) a λy8 L=>ef SS [((.pointer (some p)),some 155),((.bool false),none)] L Q) (au (decide ((((d:LB).length:Int):Int)>400)) (xA (bd SS.P 155 []) λR=>xU (ah SS.P 155 (.pointer (some p)) (.agg ⟨R⟩) a) a λu0 B=>ef SS [((.pointer (some p)),some 155),((.bool false),none)] B Q) (wpS SS al.nm al.ms [1,1,1,1,1] cc [x0,x1,(.pointer (some p)),x3,x4,(.bool neg),(strOf n),(strOf d),(.bool r),x9,Z,x5,v,X,G,y1,y6,W,y0,x7,w,q,m,F,(strOf n),(.bool c),(.bool (!c)),(.bool false),(strOf d),(.bool b),(.bool (!b)),(.bool (!b)),(.bool false),(strOf n),(.int .i64 ((n:LB).length:Int)),(.bool (decide ((((n:LB).length:Int):Int)>400))),(.bool (decide ((((n:LB).length:Int):Int)>400))),(.bool false),(strOf d),(.int .i64 ((d:LB).length:Int)),(.bool (decide ((((d:LB).length:Int):Int)>400))),(.bool (decide ((((d:LB).length:Int):Int)>400))),u,I,l,j,x6,y7,y3,N,y2,P,t,i,x2,f,x8,S,U,x,Y,s,E,J,A,o,y,C,O,z,D,K,y4,T,V,H,g] a (EE SS al Q)))))
theorem DU{neg:Bool}{p:Addr}{x3 x4 x9 y2 y4 y x7 M y9 z5 x6 y8 y6 z q m L O z8 y1 T H y0 X D z3 f l d C z6 z2 B o k x P j i y5 z7 z1 U z0 W u g y3 a y7 Y x2 A x8 r K R G n E I V F J S z4 Z x5 N c:Value}(hx:wb s t neg b p (fQ [1,1,1,1,1] al.body) v w x3 x4 x9 y2 y4 y x7 M y9 z5 x6 y8 y6 z q m L O z8 y1 T H y0 X D z3 f l d C z6 z2 B o k x P j i y5 z7 z1 U z0 W u g y3 a y7 Y x2 A x8 r K R G n E I V F J S z4 Z x5 N c h Q):TT SS al [1,1,1,1] [v,w,(.pointer (some p)),x3,x4,(.bool neg),(strOf s),(strOf t),(.bool b),x9,y2,y4,y,x7,M,y9,z5,x6,y8,y6,z,q,m,L,O,z8,y1,T,H,y0,X,D,z3,f,l,d,C,z6,z2,B,o,k,x,P,j,i,y5,z7,z1,U,z0,W,u,g,y3,a,y7,Y,x2,A,x8,r,K,R,G,n,E,I,V,F,J,S,z4,Z,x5,N,c] h (EE SS al Q):=by
 have e:∀cc,wb s t neg b p cc v w x3 x4 x9 y2 y4 y x7 M y9 z5 x6 y8 y6 z q m L O z8 y1 T H y0 X D z3 f l d C z6 z2 B o k x P j i y5 z7 z1 U z0 W u g y3 a y7 Y x2 A x8 r K R G n E I V F J S z4 Z x5 N c h Q=wpS SS al.nm al.ms [1,1,1,1] (setAt [1] cc (fQ [1,1,1,1] al.body)) [v,w,(.pointer (some p)),x3,x4,(.bool neg),(strOf s),(strOf t),(.bool b),x9,y2,y4,y,x7,M,y9,z5,x6,y8,y6,z,q,m,L,O,z8,y1,T,H,y0,X,D,z3,f,l,d,C,z6,z2,B,o,k,x,P,j,i,y5,z7,z1,U,z0,W,u,g,y3,a,y7,Y,x2,A,x8,r,K,R,G,n,E,I,V,F,J,S,z4,Z,x5,N,c] h (EE SS al Q):=λcc=>by kernel_rfl
 have e:=e (fQ [1,1,1,1,1] al.body);have ec:(fQ [1,1,1,1,1] al.body)=fQ [1] (fQ [1,1,1,1] al.body):=by kernel_rfl
 have es:setAt [1] (fQ [1,1,1,1,1] al.body) (fQ [1,1,1,1] al.body)=fQ [1,1,1,1] al.body:=by rw[ec,ja]
 rw[es]at e;exact ai hx e
abbrev wc(n d:LB)(neg a:Bool)(p:Addr)(cc:Code)(x0 x1 x3 x4 x9 U V q P E Y x6 O X W r l i D G x8 T J z S L v x2 e g c u x7 Z t k f o z1 y8 y7 z7 u1 u0 z2 z9 z3 z0 y6 z6 y5 z8 z4 z5 s R m C H y j w A K x B I x5 M N F b:Value)(h:ae)(Q:VH):Prop:=au neg (au ((n:LB)==[48]) (xA (bd SS.P 155 []) λc1=>xU (ah SS.P 155 (.pointer (some p)) (.agg ⟨c1⟩) h) h λu2 g3=>ef SS [((.pointer (some p)),some 155),((.bool false),none)] g3 Q) (au a (au ((d:LB)==[48]) (xA (bd SS.P 155 []) λc4=>xU (ah SS.P 155 (.pointer (some p)) (.agg ⟨c4⟩) h) h λu5 g6=>ef SS [((.pointer (some p)),some 155),((.bool false),none)] g6 Q) (au ((d:LB)==[49]) (xA (bd SS.P 155 []) λc7=>xU (ah SS.P 155 (.pointer (some p)) (.agg ⟨c7⟩) h) h λu8 g9=>ef SS [((.pointer (some p)),some 155),((.bool false),none)] g9 Q) (wpS SS al.nm al.ms [1,1,1,1,1,1] cc [x0,x1,(.pointer (some p)),x3,x4,(.bool neg),(strOf n),(strOf d),(.bool a),x9,U,V,q,P,E,Y,x6,O,X,W,r,l,i,D,G,x8,T,J,z,S,L,v,x2,e,g,c,u,x7,Z,t,k,f,o,(.bool neg),(.bool true),(strOf n),(.bool ((n:LB)==[48])),(.bool ((n:LB)==[48])),(.bool false),(.bool a),(.bool true),(strOf d),(.bool ((d:LB)==[48])),(.bool false),(strOf d),(.bool ((d:LB)==[49])),(.bool ((d:LB)==[49])),(.bool ((d:LB)==[49])),(.bool ((d:LB)==[49])),s,R,m,C,H,y,j,w,A,K,x,B,I,x5,M,N,F,b] h (EE SS al Q)))) (wpS SS al.nm al.ms [1,1,1,1,1,1] cc [x0,x1,(.pointer (some p)),x3,x4,(.bool neg),(strOf n),(strOf d),(.bool a),x9,U,V,q,P,E,Y,x6,O,X,W,r,l,i,D,G,x8,T,J,z,S,L,v,x2,e,g,c,u,x7,Z,t,k,f,o,(.bool neg),(.bool true),(strOf n),(.bool ((n:LB)==[48])),(.bool ((n:LB)==[48])),(.bool false),(.bool a),(.bool false),undef,undef,undef,undef,undef,undef,(.bool false),(.bool false),s,R,m,C,H,y,j,w,A,K,x,B,I,x5,M,N,F,b] h (EE SS al Q)))) (au a (au ((d:LB)==[48]) (xA (bd SS.P 155 []) λy3=>xU (ah SS.P 155 (.pointer (some p)) (.agg ⟨y3⟩) h) h λy9 y0=>ef SS [((.pointer (some p)),some 155),((.bool false),none)] y0 Q) (au ((d:LB)==[49]) (xA (bd SS.P 155 []) λy2=>xU (ah SS.P 155 (.pointer (some p)) (.agg ⟨y2⟩) h) h λy4 y1=>ef SS [((.pointer (some p)),some 155),((.bool false),none)] y1 Q) (wpS SS al.nm al.ms [1,1,1,1,1,1] cc [x0,x1,(.pointer (some p)),x3,x4,(.bool neg),(strOf n),(strOf d),(.bool a),x9,U,V,q,P,E,Y,x6,O,X,W,r,l,i,D,G,x8,T,J,z,S,L,v,x2,e,g,c,u,x7,Z,t,k,f,o,(.bool neg),(.bool false),undef,undef,(.bool false),(.bool false),(.bool a),(.bool true),(strOf d),(.bool ((d:LB)==[48])),(.bool false),(strOf d),(.bool ((d:LB)==[49])),(.bool ((d:LB)==[49])),(.bool ((d:LB)==[49])),(.bool ((d:LB)==[49])),s,R,m,C,H,y,j,w,A,K,x,B,I,x5,M,N,F,b] h (EE SS al Q)))) (wpS SS al.nm al.ms [1,1,1,1,1,1] cc [x0,x1,(.pointer (some p)),x3,x4,(.bool neg),(strOf n),(strOf d),(.bool a),x9,U,V,q,P,E,Y,x6,O,X,W,r,l,i,D,G,x8,T,J,z,S,L,v,x2,e,g,c,u,x7,Z,t,k,f,o,(.bool neg),(.bool false),undef,undef,(.bool false),(.bool false),(.bool a),(.bool false),undef,undef,undef,undef,undef,undef,(.bool false),(.bool false),s,R,m,C,H,y,j,w,A,K,x,B,I,x5,M,N,F,b] h (EE SS al Q)))
theorem DV{neg:Bool}{p:Addr}{x3 x4 x9 y2 y4 y x7 M y9 z5 x6 y8 y6 z q m L O z8 y1 T H y0 X D z3 f l d C z6 z2 B o k x P j i y5 z7 z1 U z0 W u g y3 a y7 Y x2 A x8 r K R G n E I V F J S z4 Z x5 N c:Value}(hx:wc s t neg b p (fQ [1,1,1,1,1,1] al.body) v w x3 x4 x9 y2 y4 y x7 M y9 z5 x6 y8 y6 z q m L O z8 y1 T H y0 X D z3 f l d C z6 z2 B o k x P j i y5 z7 z1 U z0 W u g y3 a y7 Y x2 A x8 r K R G n E I V F J S z4 Z x5 N c h Q):TT SS al [1,1,1,1,1] [v,w,(.pointer (some p)),x3,x4,(.bool neg),(strOf s),(strOf t),(.bool b),x9,y2,y4,y,x7,M,y9,z5,x6,y8,y6,z,q,m,L,O,z8,y1,T,H,y0,X,D,z3,f,l,d,C,z6,z2,B,o,k,x,P,j,i,y5,z7,z1,U,z0,W,u,g,y3,a,y7,Y,x2,A,x8,r,K,R,G,n,E,I,V,F,J,S,z4,Z,x5,N,c] h (EE SS al Q):=by
 have e:∀cc,wc s t neg b p cc v w x3 x4 x9 y2 y4 y x7 M y9 z5 x6 y8 y6 z q m L O z8 y1 T H y0 X D z3 f l d C z6 z2 B o k x P j i y5 z7 z1 U z0 W u g y3 a y7 Y x2 A x8 r K R G n E I V F J S z4 Z x5 N c h Q=wpS SS al.nm al.ms [1,1,1,1,1] (setAt [1] cc (fQ [1,1,1,1,1] al.body)) [v,w,(.pointer (some p)),x3,x4,(.bool neg),(strOf s),(strOf t),(.bool b),x9,y2,y4,y,x7,M,y9,z5,x6,y8,y6,z,q,m,L,O,z8,y1,T,H,y0,X,D,z3,f,l,d,C,z6,z2,B,o,k,x,P,j,i,y5,z7,z1,U,z0,W,u,g,y3,a,y7,Y,x2,A,x8,r,K,R,G,n,E,I,V,F,J,S,z4,Z,x5,N,c] h (EE SS al Q):=λcc=>by kernel_rfl
 have e:=e (fQ [1,1,1,1,1,1] al.body);have ec:(fQ [1,1,1,1,1,1] al.body)=fQ [1] (fQ [1,1,1,1,1] al.body):=by kernel_rfl
 have es:setAt [1] (fQ [1,1,1,1,1,1] al.body) (fQ [1,1,1,1,1] al.body)=fQ [1,1,1,1,1] al.body:=by rw[ec,ja]
 rw[es]at e;exact ai hx e
abbrev we(n d:LB)(neg t:Bool)(p:Addr)(cc:Code)(x0 x1 x3 x4 x9 z9 W w S E x6 y3 R x5 Z x s q D G y6 U I C T L B y1 i o g A y4 y0 z r m v H l k Y y5 x8 J x7 K u j V e x2 M O y z8 y8 z4 z5 z1 y7 y9 z2 z7 z0 z3 z6 y2 N P F f:Value)(h:ae)(Q:VH):Prop:=FW SS 175 [(strOf n),(strOf d)] h λv1 c=>∃a:LB,∃b:Int,v1=(.tuple ⟨[(strOf a),(.int .i64 b)]⟩)/\au (((b:Int) !=0)) (xA (bd SS.P 155 []) λc5=>xU (ah SS.P 155 (.pointer (some p)) (.agg ⟨c5⟩) c) c λu6 g7=>ef SS [((.pointer (some p)),some 155),((.bool false),none)] g7 Q) (au (!((a:LB)==[49])) (xA (bd SS.P 155 []) λc8=>xU (ah SS.P 155 (.pointer (some p)) (.agg ⟨c8⟩) c) c λu9 X=>ef SS [((.pointer (some p)),some 155),((.bool false),none)] X Q) (wpS SS al.nm al.ms [1,1,1,1,1,1,1] cc [x0,x1,(.pointer (some p)),x3,x4,(.bool neg),(strOf n),(strOf d),(.bool t),(strOf a),(.int .i64 b),W,w,S,E,x6,y3,R,x5,Z,x,s,q,D,G,y6,U,I,C,T,L,B,y1,i,o,g,A,y4,y0,z,r,m,v,H,l,k,Y,y5,x8,J,x7,K,u,j,V,e,x2,M,O,y,(.tuple ⟨[(strOf a),(.int .i64 b)]⟩),(strOf n),(strOf d),(.tuple ⟨[(strOf a),(.int .i64 b)]⟩),(strOf a),(.int .i64 b),(.int .i64 b),(.bool (((b:Int) !=0))),(.bool false),(strOf a),(.bool (!((a:LB)==[49]))),(.bool (!((a:LB)==[49]))),y2,N,P,F,f] c (EE SS al Q)))
theorem DW{neg:Bool}{p:Addr}{x3 x4 x9 y2 y4 y x7 M y9 z5 x6 y8 y6 z q m L O z8 y1 T H y0 X D z3 f l d C z6 z2 B o k x P j i y5 z7 z1 U z0 W u g y3 a y7 Y x2 A x8 r K R G n E I V F J S z4 Z x5 N c:Value}(hx:we s t neg b p (fQ [1,1,1,1,1,1,1] al.body) v w x3 x4 x9 y2 y4 y x7 M y9 z5 x6 y8 y6 z q m L O z8 y1 T H y0 X D z3 f l d C z6 z2 B o k x P j i y5 z7 z1 U z0 W u g y3 a y7 Y x2 A x8 r K R G n E I V F J S z4 Z x5 N c h Q):TT SS al [1,1,1,1,1,1] [v,w,(.pointer (some p)),x3,x4,(.bool neg),(strOf s),(strOf t),(.bool b),x9,y2,y4,y,x7,M,y9,z5,x6,y8,y6,z,q,m,L,O,z8,y1,T,H,y0,X,D,z3,f,l,d,C,z6,z2,B,o,k,x,P,j,i,y5,z7,z1,U,z0,W,u,g,y3,a,y7,Y,x2,A,x8,r,K,R,G,n,E,I,V,F,J,S,z4,Z,x5,N,c] h (EE SS al Q):=by
 have e:∀cc,we s t neg b p cc v w x3 x4 x9 y2 y4 y x7 M y9 z5 x6 y8 y6 z q m L O z8 y1 T H y0 X D z3 f l d C z6 z2 B o k x P j i y5 z7 z1 U z0 W u g y3 a y7 Y x2 A x8 r K R G n E I V F J S z4 Z x5 N c h Q=wpS SS al.nm al.ms [1,1,1,1,1,1] (setAt [1] cc (fQ [1,1,1,1,1,1] al.body)) [v,w,(.pointer (some p)),x3,x4,(.bool neg),(strOf s),(strOf t),(.bool b),x9,y2,y4,y,x7,M,y9,z5,x6,y8,y6,z,q,m,L,O,z8,y1,T,H,y0,X,D,z3,f,l,d,C,z6,z2,B,o,k,x,P,j,i,y5,z7,z1,U,z0,W,u,g,y3,a,y7,Y,x2,A,x8,r,K,R,G,n,E,I,V,F,J,S,z4,Z,x5,N,c] h (EE SS al Q):=λcc=>by kernel_rfl
 have e:=e (fQ [1,1,1,1,1,1,1] al.body);have ec:(fQ [1,1,1,1,1,1,1] al.body)=fQ [1] (fQ [1,1,1,1,1,1] al.body):=by kernel_rfl
 have es:setAt [1] (fQ [1,1,1,1,1,1,1] al.body) (fQ [1,1,1,1,1,1] al.body)=fQ [1,1,1,1,1,1] al.body:=by rw[ec,ja]
 rw[es]at e;exact ai hx e
theorem DX{neg r:Bool}{p:Addr}{x3 x4 x9 y3 y5 z x8 N z0 z6 x7 y9 y7 A q m M P z9 y2 U I y1 Y E z4 f l e D z7 z3 C o k y R j i y6 z8 z2 V z1 X x g y4 c y8 Z x5 B y0 u L S H n F J W G K T z5 x2 x6 O d:Value}(hx:xA (bd SS.P 155 [(0,(.bool neg)),(1,(strOf s)),(2,(strOf t))]) λb=>xU (ah SS.P 155 (.pointer (some p)) (.agg ⟨b⟩) h) h λ_ a=>ef SS [((.pointer (some p)),some 155),((.bool true),none)] a Q):TT SS al [1,1,1,1,1,1,1] [v,w,(.pointer (some p)),x3,x4,(.bool neg),(strOf s),(strOf t),(.bool r),x9,y3,y5,z,x8,N,z0,z6,x7,y9,y7,A,q,m,M,P,z9,y2,U,I,y1,Y,E,z4,f,l,e,D,z7,z3,C,o,k,y,R,j,i,y6,z8,z2,V,z1,X,x,g,y4,c,y8,Z,x5,B,y0,u,L,S,H,n,F,J,W,G,K,T,z5,x2,x6,O,d] h (EE SS al Q):=ai hx
noncomputable def Nn:FD:=cF Tryz.f109 []
theorem KP(l:LB)(h:ae)(Q:VH)(e:FW SS 145 [(strOf l)] h λc d=>∃b:LV,∃a:Bool,c=(.tuple ⟨[(.agg ⟨b⟩),(.bool a)]⟩)/\Q (.bool a) d):FW SS 109 [(strOf l)] h Q:=cI Nn Tryz.func109 (ai e)
noncomputable def Ro:FD:=cF Tryz.f141 []
theorem Nm(p:Bool)(l:LB)(q:Bool)(m:LB)(h:ae)(Q:VH)(k:au (p==q) (FW SS 168 [(strOf l),(strOf m)] h λf g=>∃e:LB,∃d:Int,f=(.tuple ⟨[(strOf e),(.int .i64 d)]⟩)/\FW SS 142 [(strOf e),(.int .i64 d)] g λb c=>yS b λa=>Q (.tuple ⟨[(.bool p),(strOf a)]⟩) c) (FW SS 169 [(strOf l),(strOf m)] h λi j=>yI .i64 i λh=>au (decide ((h:Int)<0)) (FW SS 170 [(strOf m),(strOf l)] j λf g=>∃e:LB,∃d:Int,f=(.tuple ⟨[(strOf e),(.int .i64 d)]⟩)/\FW SS 142 [(strOf e),(.int .i64 d)] g λb c=>yS b λa=>Q (.tuple ⟨[(.bool q),(strOf a)]⟩) c) (FW SS 170 [(strOf l),(strOf m)] j λf g=>∃e:LB,∃d:Int,f=(.tuple ⟨[(strOf e),(.int .i64 d)]⟩)/\FW SS 142 [(strOf e),(.int .i64 d)] g λb c=>yS b λa=>Q (.tuple ⟨[(.bool p),(strOf a)]⟩) c))):FW SS 141 [(.bool p),(strOf l),(.bool q),(strOf m)] h Q:=cI Ro Tryz.func141 (ai k)
noncomputable def Vq:FD:=cF Tryz.f149 []
theorem Ri(l m:LB)(h:ae)(Q:VH)(N:FW SS 145 [(strOf l)] h λP D=>∃F:LV,∃H:Bool,P=(.tuple ⟨[(.agg ⟨F⟩),(.bool H)]⟩)/\xN (br SS.P 155) D λ_ I=>xU (ah SS.P 155 (pA (D.next)) (.agg ⟨F⟩) I) I λ_ M=>FW SS 145 [(strOf m)] M λO C=>∃J:LV,∃G:Bool,O=(.tuple ⟨[(.agg ⟨J⟩),(.bool G)]⟩)/\xN (br SS.P 155) C λ_ K=>xU (ah SS.P 155 (pA (C.next)) (.agg ⟨J⟩) K) K λ_ B=>au (!H) (Q (.int .i64 0) B) (au (!G) (Q (.int .i64 0) B) (fP 155 (pA (D.next)) 0 λE=>lB (room B 27) E λA=>fP 155 (pA (D.next)) 1 λR=>lS (room B 27) R λL=>fP 155 (pA (C.next)) 2 λz=>lS (room B 27) z λy=>FW SS 143 [(strOf L),(strOf y)] (room B 27) λw x=>∃v:LB,∃u:Int,w=(.tuple ⟨[(strOf v),(.int .i64 u)]⟩)/\FW SS 142 [(strOf v),(.int .i64 u)] x λs t=>yS s λr=>fP 155 (pA (C.next)) 0 λq=>lB t q λp=>fP 155 (pA (C.next)) 1 λo=>lS t o λn=>fP 155 (pA (D.next)) 2 λm=>lS t m λl=>FW SS 143 [(strOf n),(strOf l)] t λj k=>∃i:LB,∃h:Int,j=(.tuple ⟨[(strOf i),(.int .i64 h)]⟩)/\FW SS 142 [(strOf i),(.int .i64 h)] k λf g=>yS f λe=>FW SS 141 [(.bool A),(strOf r),(.bool (!p)),(strOf e)] g λc d=>∃b:Bool,∃a:LB,c=(.tuple ⟨[(.bool b),(strOf a)]⟩)/\(aj SS.P 4 x (.pointer (some E))=some (.bool A)/\dG 4 (.bool A) (.bool A)=true)/\(aj SS.P 4 t (.pointer (some E))=some (.bool A)/\dG 4 (.bool A) (.bool A)=true)/\(aj SS.P 4 k (.pointer (some E))=some (.bool A)/\dG 4 (.bool A) (.bool A)=true)/\(aj SS.P 4 g (.pointer (some E))=some (.bool A)/\dG 4 (.bool A) (.bool A)=true)/\(aj SS.P 4 (room B 27) (.pointer (some q))=some (.bool p)/\dG 4 (.bool p) (.bool p)=true)/\(aj SS.P 4 x (.pointer (some q))=some (.bool p)/\dG 4 (.bool p) (.bool p)=true)/\(aj SS.P 4 k (.pointer (some q))=some (.bool p)/\dG 4 (.bool p) (.bool p)=true)/\(aj SS.P 4 g (.pointer (some q))=some (.bool p)/\dG 4 (.bool p) (.bool p)=true)/\(aj SS.P 9 (room B 27) (.pointer (some o))=some (strOf n)/\dG 4 (strOf n) (strOf n)=true)/\(aj SS.P 9 x (.pointer (some o))=some (strOf n)/\dG 4 (strOf n) (strOf n)=true)/\(aj SS.P 9 (room B 27) (.pointer (some m))=some (strOf l)/\dG 4 (strOf l) (strOf l)=true)/\(aj SS.P 9 x (.pointer (some m))=some (strOf l)/\dG 4 (strOf l) (strOf l)=true)/\au ((a:LB)==[48]) (Q (.int .i64 0) d) (au b (Q (.int .i64 (-1)) d) (Q (.int .i64 1) d))))):FW SS 149 [(strOf l),(strOf m)] h Q:=cI Vq Tryz.func149 (ai N)
noncomputable def Ud:FD:=cF Tryz.f204 []
theorem Qk(l m:LB)(h:ae)(Q:VH)(b:au (decide ((((l:LB).length:Int):Int)>=((m:LB).length:Int))) (xS (bF SS.P 9 (strOf l) none (some (.int .i64 ((m:LB).length:Int))) none h) λa=>Q (.bool ((a:LB)==m)) h) (Q (.bool false) h)):FW SS 204 [(strOf l),(strOf m)] h Q:=cI Ud Tryz.func204 (ai b)
noncomputable def gN:FD:=cF Tryz.f171 [([1,1,0,1,0,0],[0,22,23])]
abbrev mO(l:LB)(i:Int):LV:=[(strOf l),(.int .i64 (l.length:Int)),(.int .i64 i)]
theorem Bi(l:LB)(h:ae)(Q:VH)(b:au ((l:LB)==[]) (Q (.bool false) h) (au (decide ((((l:LB).length:Int):Int)>1000)) (Q (.bool false) h) (au (decide ((((l:LB).length:Int):Int)>1)) (xI .u8 (bP SS.P 9 (strOf l) (.int .i64 0)) λa=>au (((a:Int)==48)) (Q (.bool false) h) (LL SS gN [1,1,0,1,0,0] [(strOf l),(.int .i64 ((l:LB).length:Int)),(.int .i64 0)] h (KK SS gN [1,1,0,1,0] [] (EE SS gN Q)))) (LL SS gN [1,1,0,1,0,0] [(strOf l),(.int .i64 ((l:LB).length:Int)),(.int .i64 0)] h (KK SS gN [1,1,0,1,0] [] (EE SS gN Q)))))):FW SS 171 [(strOf l)] h Q:=cI gN Tryz.func171 (ai b)
theorem vJ(l:LB)  (d:Nat->Int->ae->Prop) (Q:VH) (step:∀(c:Nat)(i:Int)(f:Nat->Value)(h:ae),d c i h->au (decide ((i:Int)<(l.length:Int))) (xI .u8 (bP SS.P 9 (strOf l) (.int .i64 i)) λb=>au (decide ((b:Int)<48)) (Q (.bool false) h) (xI .u8 (bP SS.P 9 (strOf l) (.int .i64 i)) λa=>au (decide ((a:Int)>57)) (Q (.bool false) h) (aJ (fs (mO l) d) c [(strOf l),(.int .i64 (l.length:Int)),(.int .i64 (wrap .i64 (i+1)))] h))) (Q (.bool true) h)) (c:Nat) {i:Int} {h:ae} (e:d c i h):LL SS gN [1,1,0,1,0,0] (mO l i) h (KK SS gN [1,1,0,1,0] [] (EE SS gN Q)):=
 dc (mO l) d (λc i f h e=>ai (step c i f h e)) c e
noncomputable def gO:FD:=cF Tryz.f136 [([1,1,0,1,0,0],[0,3])]
abbrev hO(l:LB)(i:Int):LV:=[(strOf l),(.int .i64 i)]
theorem Bo(l:LB)(h:ae)(Q:VH)(b:au (decide ((((l:LB).length:Int):Int)<1)) (Q (.bool false) h) (au (decide ((((l:LB).length:Int):Int)>1000)) (Q (.bool false) h) (xI .u8 (bP SS.P 9 (strOf l) (.int .i64 0)) λa=>au (((a:Int)==48)) (au (decide ((((l:LB).length:Int):Int)>1)) (Q (.bool false) h) (LL SS gO [1,1,0,1,0,0] (hO l 0) h (KK SS gO [1,1,0,1,0] [] (EE SS gO Q)))) (LL SS gO [1,1,0,1,0,0] (hO l 0) h (KK SS gO [1,1,0,1,0] [] (EE SS gO Q)))))):FW SS 136 [(strOf l)] h Q:=cI gO Tryz.func136 (ai b)
theorem vL(l:LB)  (d:Nat->Int->ae->Prop) (Q:VH) (step:∀(c:Nat)(i:Int)(f:Nat->Value)(h:ae),d c i h->au (decide ((i:Int)<((l:LB).length:Int))) (xI .u8 (bP SS.P 9 (strOf l) (.int .i64 i)) λb=>au (decide ((b:Int)<48)) (Q (.bool false) h) (xI .u8 (bP SS.P 9 (strOf l) (.int .i64 i)) λa=>au (decide ((a:Int)>57)) (Q (.bool false) h) (aJ (fs (hO l) d) c [(strOf l),(.int .i64 (wrap .i64 (i+1)))] h))) (Q (.bool true) h)) (c:Nat) {i:Int} {h:ae} (e:d c i h):LL SS gO [1,1,0,1,0,0] (hO l i) h (KK SS gO [1,1,0,1,0] [] (EE SS gO Q)):=
 dc (hO l) d (λc i f h e=>ai (step c i f h e)) c e
noncomputable def iJ:FD:=cF Tryz.f154 [([1,1,0,1,0,0],[0,1,5])]
abbrev iK(a b:LB)(i:Int):LV:=[(strOf a),(strOf b),(.int .i64 i)]
theorem Fq(a b:LB)(h:ae)(Q:VH)(c:au (((((a:LB).length:Int):Int) !=((b:LB).length:Int))) (au (decide ((((a:LB).length:Int):Int)<((b:LB).length:Int))) (Q (.int .i64 (-1)) h) (Q (.int .i64 1) h)) (LL SS iJ [1,1,0,1,0,0] (iK a b 0) h (KK SS iJ [1,1,0,1,0] [] (EE SS iJ Q)))):FW SS 154 [(strOf a),(strOf b)] h Q:=cI iJ Tryz.func154 (ai c)
theorem tl(a b:LB)  (g:Nat->Int->ae->Prop) (Q:VH) (step:∀(f:Nat)(i:Int)(k:Nat->Value)(h:ae),g f i h->au (decide ((i:Int)<((a:LB).length:Int))) (xI .u8 (bP SS.P 9 (strOf a) (.int .i64 i)) λe=>xI .u8 (bP SS.P 9 (strOf b) (.int .i64 i)) λd=>au (((e:Int) !=d)) (xI .u8 (bP SS.P 9 (strOf a) (.int .i64 i)) λc=>xI .u8 (bP SS.P 9 (strOf b) (.int .i64 i)) λa=>au (decide ((c:Int)<a)) (Q (.int .i64 (-1)) (room (room h 7) 7)) (Q (.int .i64 1) (room (room h 7) 7))) (aJ (fs (iK a b) g) f [(strOf a),(strOf b),(.int .i64 (wrap .i64 (i+1)))] (room h 7))) (Q (.int .i64 0) h)) (f:Nat) {i:Int} {h:ae} (j:g f i h):LL SS iJ [1,1,0,1,0,0] (iK a b i) h (KK SS iJ [1,1,0,1,0] [] (EE SS iJ Q)):=
 dc (iK a b) g (λf i k h j=>ai (step f i k h j)) f j
noncomputable def Zm:FD:=cF Tryz.f151 []
theorem VA(a:OA)(n c:Nat)(i:Int)(h:ae)(Q:VH)(d:au (decide ((i:Int)<(n:Int))) (iP 22 (.slice a n c) (.int .i64 i) λb=>lI h b λa=>Q (.int .i64 a) h) (Q (.int .i64 0) h)):FW SS 151 [(.slice a n c),(.int .i64 i)] h Q:=cI Zm Tryz.func151 (ai d)
noncomputable def jM:FD:=cF Tryz.f150 [([1,1,0,1,0,0],[0,3,4])]
abbrev l9(l:LB)(i:Int)(a:OA)(n c:Nat):LV:=[(strOf l),(.slice a n c),(.int .i64 i)]
theorem Ir(l:LB)(h:ae)(Q:VH)(a:LL SS jM [1,1,0,1,0,0] [(strOf l),nA,(.int .i64 (wrap .i64 (((l:LB).length:Int)-1)))] h (KK SS jM [1,1,0,1,0] [] (EE SS jM Q))):FW SS 150 [(strOf l)] h Q:=cI jM Tryz.func150 (ai a)
theorem uo(l:LB)  (m:Nat->Int->OA->Nat->Nat->ae->Prop) (Q:VH) (step:∀(k:Nat)(i:Int)(a:OA)(n c:Nat)(p:Nat->Value)(h:ae),m k i a n c h->au (decide ((i:Int)>=0)) (xI .u8 (bP SS.P 9 (strOf l) (.int .i64 i)) λj=>xR (aI SS.P 22 1 [(0,(.int .i64 (wrap .i64 (wrap .u8 (j-48)))))]) h λ_ e f g=>xE (bH SS.P 22 22 (.slice a n c) (sA (h.next) e f) g) g λa b c _ d=>aJ (LA4 (l9 l) m) k [(strOf l),(.slice a b c),(.int .i64 (wrap .i64 (i-1)))] d) (Q (.slice a n c) h)) (k:Nat) {i:Int} {a:OA} {n c:Nat} {h:ae} (o:m k i a n c h):LL SS jM [1,1,0,1,0,0] (l9 l i a n c) h (KK SS jM [1,1,0,1,0] [] (EE SS jM Q)):=
 VO (l9 l) m (λk i a n c p h o=>ai (step k i a n c p h o)) k o
variable{i:Nat}{a:Option Addr}{n:Nat}{x:List Nat}
theorem ZN:SS.P.underlying 9=some .string:=by kernel_rfl
theorem BJ(l:List UInt8){h:ae}{i:Int}(b:0<=i)(a:i<l.length):bP SS.P 9 (strOf l) (.int .i64 i)=some (.int .u8 ((l.getD i.toNat 0).toNat:Nat)):=oG ZN l _ b a
theorem TN{c:UInt8}(a:¬(c.toNat:Int)<48)(b:¬(c.toNat:Int)>57):bR c=true:=by
 unfold bR;simp;omega
theorem H0{c:UInt8}(h:(c.toNat:Int)<48\/(c.toNat:Int)>57):bR c=false:=by
 unfold bR;simp;omega
theorem vU(b:i<s.length)(c:(s.take i).all bR=true)(a:bR (s.getD i 0)=true):(s.take (i+1)).all bR=true:=by
 rw[List.take_succ_eq_append_getElem b,List.all_append,c];rw[gD,gE b]at a;simpa using a
theorem uR(b:i<s.length)(a:bR (s.getD i 0)=false):s.all bR=false:=by
 rw[gD,gE b]at a;exact List.all_eq_false.2 ⟨s[i],getElem_mem b,by simpa using a⟩
theorem En(h:1000<s.length):Num.valid s=false:=by
 unfold Num.valid;rw[decide_eq_false (by omega:¬s.length<=1000)];simp
theorem Eo(h:1<s.length)(b:s.getD 0 0=48):Num.valid s=false:=by
 unfold Num.valid
 cases s with
 |nil=>rfl
 |cons a s=>
  have b:a=48:=b;subst b;rw[decide_eq_true h];simp
theorem vu(e:s≠[])(c:s.length<=1000)(d:1<s.length->s.getD 0 0≠48):Num.valid s=s.all bR:=by
 unfold Num.valid
 cases s with
 |nil=>exact absurd rfl e
 |cons a s=>
  rw[decide_eq_true c];by_cases h:1<(a::s).length
  ·have b:a≠48:=d h;rw[decide_eq_true h];simp[b]
  ·rw[decide_eq_false h];simp
theorem GZ{c:UInt8}:((c.toNat:Int)==48)=true↔c=48:=by
 rw[beq_iff_eq];refine⟨λh=>UInt8.toNat_inj.1 ?_,λh=>by rw[h];rfl⟩;have a:(48:UInt8).toNat=48:=rfl;omega
theorem dJ(l:List UInt8)(h:ae):FW SS 171 [strOf l] h (λv o=>v = .bool (Num.valid l)/\o=h):=by
 by_cases j:l.length<=1000
 case neg=>
  refine Bi l h _ (aa (λa=>?_) (λa=>aa (λd=>?_) (λd=>?_)))
  ·obtain rfl:l=[]:=by simpa using a
   exact⟨rfl,rfl⟩
  ·exact⟨by rw[En (by omega)],rfl⟩
  ·have:=dF d;omega
 have L:=λ(n:Num.valid l=l.all bR)=>vJ l (λm i g=>0<=i/\i<=l.length/\m=l.length-i.toNat/\(l.take i.toNat).all bR=true/\g=h) (λv o=>v = .bool (Num.valid l)/\o=h) (by
  intro m i;intros;rename_i g t;obtain⟨a,d,k,b,rfl⟩:=t;refine aa (λc=>?_) (λc=>?_)
  ·have c:=dT c;have f:i.toNat<l.length:=by omega
   refine⟨_,BJ (h:=g) l a c,aa (λq=>?_) (λq=>⟨_,BJ (h:=g) l a c,aa (λp=>?_) (λp=>?_)⟩)⟩
   ·exact⟨by rw[n,uR f (H0 (.inl (dT q)))],rfl⟩
   ·exact⟨by rw[n,uR f (H0 (.inr (dT p)))],rfl⟩
   ·have s:wrap .i64 (i+1)=i+1:=aB (by omega) (by omega);refine bZ (m-1) (by omega) ?_;rw[s];refine⟨by omega,by omega,by omega,?_,rfl⟩;rw[show(i+1).toNat=i.toNat+1 by omega];exact vU f b (TN (dF q) (dF p))
  ·have c:=dF c;refine⟨?_,rfl⟩;rw[n,<-b,take_of_length_le (by omega)])
 refine Bi l h _ (aa (λa=>?_) (λa=>aa (λd=>?_) (λd=>?_)))
 ·obtain rfl:l=[]:=by simpa using a
  exact⟨rfl,rfl⟩
 ·have:=dT d;omega
 ·have a:l≠[]:=by simpa using a
  have r:=List.length_pos_iff.2 a;refine aa (λk=>⟨_,BJ (h:=h) l (by omega) (by omega),aa (λb=>?_) (λb=>?_)⟩) (λk=>?_)
  ·exact⟨by rw[Eo (by have:=dT k;omega) (GZ.1 b)],rfl⟩
  ·exact L (vu a j λ_ e=>by have b:(((l.getD 0 0).toNat:Int)==48)=false:=b;rw[GZ.2 e]at b;cases b) l.length ⟨by omega,by omega,by simp,by simp,rfl⟩
  ·exact L (vu a j λe=>by have:=dF k;omega) l.length ⟨by omega,by omega,by simp,by simp,rfl⟩
theorem dr(l:List UInt8)(h:ae):FW SS 136 [strOf l] h (λv o=>v = .bool (Num.valid l)/\o=h):=by
 by_cases j:l.length<=1000
 case neg=>
  refine Bo l h _ (aa (λa=>?_) (λa=>aa (λd=>?_) (λd=>?_)))
  ·have a:=dT a;omega
  ·exact⟨by rw[En (by omega)],rfl⟩
  ·have:=dF d;omega
 have L:=λ(n:Num.valid l=l.all bR)=>vL l (λm i g=>0<=i/\i<=l.length/\m=l.length-i.toNat/\(l.take i.toNat).all bR=true/\g=h) (λv o=>v = .bool (Num.valid l)/\o=h) (by
  intro m i;intros;rename_i g t;obtain⟨a,d,k,b,rfl⟩:=t;refine aa (λc=>?_) (λc=>?_)
  ·have c:=dT c;have f:i.toNat<l.length:=by omega
   refine⟨_,BJ (h:=g) l a c,aa (λq=>?_) (λq=>⟨_,BJ (h:=g) l a c,aa (λp=>?_) (λp=>?_)⟩)⟩
   ·exact⟨by rw[n,uR f (H0 (.inl (dT q)))],rfl⟩
   ·exact⟨by rw[n,uR f (H0 (.inr (dT p)))],rfl⟩
   ·have s:wrap .i64 (i+1)=i+1:=aB (by omega) (by omega);refine bZ (m-1) (by omega) ?_;rw[s];refine⟨by omega,by omega,by omega,?_,rfl⟩;rw[show(i+1).toNat=i.toNat+1 by omega];exact vU f b (TN (dF q) (dF p))
  ·have c:=dF c;refine⟨?_,rfl⟩;rw[n,<-b,take_of_length_le (by omega)])
 refine Bo l h _ (aa (λa=>?_) (λa=>aa (λd=>?_) (λd=>?_)))
 ·have a:=dT a;obtain rfl:l=[]:=List.eq_nil_of_length_eq_zero (by omega);exact⟨rfl,rfl⟩
 ·have:=dT d;omega
 ·have a:=dF a;have a:l≠[]:=λe=>by subst e;simp at a
  have r:=List.length_pos_iff.2 a;refine⟨_,BJ (h:=h) l (by omega) (by omega),aa (λb=>aa (λk=>?_) (λk=>?_)) (λb=>?_)⟩
  ·exact⟨by rw[Eo (by have:=dT k;omega) (GZ.1 b)],rfl⟩
  ·exact L (vu a j λe=>by have:=dF k;omega) l.length ⟨by omega,by omega,by simp,by simp,rfl⟩
  ·exact L (vu a j λ_ e=>by have b:(((l.getD 0 0).toNat:Int)==48)=false:=b;rw[GZ.2 e]at b;cases b) l.length ⟨by omega,by omega,by simp,by simp,rfl⟩
theorem MX{a b:Nat}(h:((a:Int) !=b)=true):a≠b:=by
 intro e;subst e;simp at h
theorem Mw{a b:Nat}(h:((a:Int) !=b)=false):a=b:=by
 by_cases e:a=b
 ·exact e
 ·exfalso;have:(a:Int)≠b:=by omega
  simp[this]at h
theorem qF(m n:Nat)(y:(ag m).length<9223372036854775807)(x:(ag n).length<9223372036854775807)(h:ae)(w:Wf h):FW SS 154 [strOf (ag m),strOf (ag n)] h (λv q=>v = .int .i64 (eJ m n)/\Ok h q):=by
 have L:=λ(s:(ag m).length=(ag n).length)=>tl (ag m) (ag n) (λk i g=>0<=i/\i<=(ag m).length/\k=(ag m).length-i.toNat/\(ag m).take i.toNat=(ag n).take i.toNat/\Ok h g) (λv q=>v = .int .i64 (eJ m n)/\Ok h q) (by
  intro k i;intros;rename_i g u;obtain⟨a,f,z,e,j⟩:=u;refine aa (λb=>?_) (λb=>?_)
  ·have b:=dT b;have r:i.toNat<(ag m).length:=by omega
   have p:i.toNat<(ag n).length:=by omega
   have l:(ag m)[i.toNat]?=some ((ag m).getD i.toNat 0):=by rw[gD,gE r];rfl
   have o:(ag n)[i.toNat]?=some ((ag n).getD i.toNat 0):=by rw[gD,gE p];rfl
   refine⟨_,BJ (h:=g) _ a b,_,BJ (h:=g) _ a (by omega),aa (λc=>?_) (λc=>?_)⟩
   ·refine⟨_,BJ (h:=g) _ a b,_,BJ (h:=g) _ a (by omega),aa (λd=>?_) (λd=>?_)⟩
    ·have d:=dT d;have:=oX (cX n) (cX m) s e l o (UInt8.lt_iff_toNat_lt.2 (by omega));rw[bu,bu]at this;exact⟨by rw[lC this],(j.room 7).room 7⟩
    ·have d:=dF d;have c:=MX c;have:=oX (cX m) (cX n) s.symm e.symm o l (UInt8.lt_iff_toNat_lt.2 (by omega));rw[bu,bu]at this;exact⟨by rw[lz this],(j.room 7).room 7⟩
   ·have c:=Mw c;have t:wrap .i64 (i+1)=i+1:=aB (by omega) (by omega);refine bZ (k-1) (by omega) ?_;rw[t];refine⟨by omega,by omega,by omega,?_,j.room 7⟩;rw[show(i+1).toNat=i.toNat+1 by omega,List.take_add_one,List.take_add_one,e,l,o,UInt8.toNat_inj.1 c]
  ·have b:=dF b;rw[take_of_length_le (by omega),take_of_length_le (by omega)]at e;exact⟨by rw[tF e,qM],j⟩)
 refine Fq _ _ h _ (aa (λa=>aa (λf=>?_) (λf=>?_)) (λa=>?_))
 ·exact⟨by rw[lC (lV (by have:=dT f;omega))],Ok.refl w⟩
 ·have a:=MX a;exact⟨by rw[lz (lV (by have:=dF f;omega))],Ok.refl w⟩
 ·have a:=Mw a;exact L a (ag m).length ⟨by omega,by omega,by simp,by simp,Ok.refl w⟩
def iv(d:Nat):Value:= .int .i64 (d:Int)
theorem qG:SS.P.underlying 22=some (.slice 3):=by kernel_rfl
theorem Sr:aG SS.P 3=some 1:=by kernel_rfl
theorem G0:SS.P.underlying 3=some (.int .i64):=by kernel_rfl
theorem FT:Go.Ab.isAgg SS.P 3=false:=by kernel_rfl
noncomputable def re3:TypeInfo:=(eW SS.P 3).getD default
theorem Vw:eW SS.P 3=some re3:=by kernel_rfl
theorem KR:re3.size=1:=by kernel_rfl
theorem Gx:re3.bytes=8:=by kernel_rfl
theorem tT(l:List Nat)(i:Nat)(h:i<l.length):(l.map iv).getD i undef = .int .i64 (l.getD i 0:Nat):=by
 simp[gD,List.getElem?_map,gE h,iv]
theorem um{c:Nat}(r:Rd h 3 (.slice a n c) (x.map iv))(i:Nat):FW SS 151 [.slice a n c,.int .i64 (i:Int)] h (λv g=>v = .int .i64 (x.getD i 0:Nat)/\g=h):=by
 have e:=r.len;rw[lM]at e;refine VA a n c i h _ (aa (λb=>?_) (λb=>?_))
 ·have b:=dT b;obtain⟨p,f,d⟩:=r.at_ qG Sr G0 FT (k:= .i64) (i:=(i:Int)) (by omega) (by rw[lM];omega);rw[Int.toNat_natCast,tT x i (by omega)]at d;exact⟨p,f,_,d,rfl,rfl⟩
 ·have b:=dF b;refine⟨?_,rfl⟩;rw[gD,List.getElem?_eq_none (by omega)];rfl
noncomputable def mQ:FD:=cF Tryz.f155 [([1,1,1,0,1,0,0],[0,1,5,6,7])]
abbrev iT(a:OA)(n c:Nat)(b:OA)(m d:Nat)(k cc:Nat)(r:OA)(e f:Nat):LV:=[(.slice a n c),(.slice b m d),(.slice r e f),(iA cc),(iA k)]
theorem Nt(a:OA)(n c:Nat)(b:OA)(m d:Nat)(h:ae)(Q:VH)(e:LL SS mQ [1,1,1,0,1,0,0] (iT a n c b m d 0 0 none 0 0) h (KK SS mQ [1,1,1,0,1,0] [] (EE SS mQ Q))):FW SS 155 [(.slice a n c),(.slice b m d)] h Q:=cI mQ Tryz.func155 (ai e)
theorem wZ(a:OA)(n c:Nat)(b:OA)(m d:Nat)  (x:Nat->Nat->Nat->OA->Nat->Nat->ae->Prop) (Q:VH) (step:∀(y:Nat)(k cc:Nat)(r:OA)(v w:Nat)(A:Nat->Value)(h:ae),x y k cc r v w h->au (decide (((k:Int):Int)<(n:Int))) (FW SS 151 [(.slice a n c),(iA k)] h λt u=>yI .i64 t λs=>FW SS 151 [(.slice b m d),(iA k)] u λp q=>yI .i64 p λo=>au (decide ((wrap .i64 (wrap .i64 (s-o)-(cc:Int)):Int)<0)) (xR (aI SS.P 22 1 [(0,(.int .i64 (wrap .i64 (wrap .i64 (wrap .i64 (s-o)-(cc:Int))+10))))]) q λ_ i j l=>xE (bH SS.P 22 22 (.slice r v w) (sA (q.next) i j) l) l λe f g _ h=>aJ (Ct (iT a n c b m d) x) y [(.slice a n c),(.slice b m d),(.slice e f g),(.int .i64 1),(.int .i64 (wrap .i64 ((k:Int)+1)))] h) (xR (aI SS.P 22 1 [(0,(.int .i64 (wrap .i64 (wrap .i64 (s-o)-(cc:Int)))))]) q λ_ i j l=>xE (bH SS.P 22 22 (.slice r v w) (sA (q.next) i j) l) l λe f g _ h=>aJ (Ct (iT a n c b m d) x) y [(.slice a n c),(.slice b m d),(.slice e f g),(.int .i64 0),(.int .i64 (wrap .i64 ((k:Int)+1)))] h)) (Q (.slice r v w) h)) (y:Nat) {k cc:Nat} {r:OA} {v w:Nat} {h:ae} (z:x y k cc r v w h):LL SS mQ [1,1,1,0,1,0,0] (iT a n c b m d k cc r v w) h (KK SS mQ [1,1,1,0,1,0] [] (EE SS mQ Q)):=
 GF (iT a n c b m d) x (λy k cc r v w A h z=>ai (step y k cc r v w A h z)) y z
noncomputable def eG:FD:=cF Tryz.f153 [([1,1,0,0,0],[0,3]),([1,1,1,1,0,1,0,0],[0,4,5])]
abbrev nQ(a:OA)(n c:Nat)(z:Int):LV:=[(.slice a n c),(.int .i64 z)]
abbrev iU(a:OA)(n c:Nat)(i:Int)(r:OA)(b d:Nat):LV:=[(.slice a n c),(.slice r b d),(.int .i64 i)]
theorem Nu(a:OA)(n c:Nat)(h:ae)(Q:VH)(b:LL SS eG [1,1,0,0,0] [(.slice a n c),(iA n)] h (KK SS eG [1,1,0,0] [] (EE SS eG Q))):FW SS 153 [(.slice a n c)] h Q:=cI eG Tryz.func153 (ai b)
theorem xb(a:OA)(n c:Nat)  (f:Nat->Int->ae->Prop) (Q:VH) (step:∀(e:Nat)(z:Int)(i:Nat->Value)(h:ae),f e z h->au (decide ((z:Int)>1)) (iP 22 (.slice a n c) (.int .i64 (wrap .i64 (z-1))) λd=>lI h d λb=>au (((b:Int)==0)) (aJ (fs (nQ a n c) f) e [(.slice a n c),(.int .i64 (wrap .i64 (z-1)))] h) (LL SS eG [1,1,1,1,0,1,0,0] (iU a n c (wrap .i64 (z-1)) none 0 0) h (KK SS eG [1,1,1,1,0,1,0] [] (EE SS eG Q)))) (LL SS eG [1,1,1,1,0,1,0,0] (iU a n c (wrap .i64 (z-1)) none 0 0) h (KK SS eG [1,1,1,1,0,1,0] [] (EE SS eG Q)))) (e:Nat) {z:Int} {h:ae} (g:f e z h):LL SS eG [1,1,0,0,0] (nQ a n c z) h (KK SS eG [1,1,0,0] [] (EE SS eG Q)):=
 dc (nQ a n c) f (λe z i h g=>ai (step e z i h g)) e g
theorem xd(a:OA)(n c:Nat)  (s:Nat->Int->OA->Nat->Nat->ae->Prop) (Q:VH) (step:∀(q:Nat)(i:Int)(r:OA)(o p:Nat)(u:Nat->Value)(h:ae),s q i r o p h->au (decide ((i:Int)>=0)) (iP 22 (.slice a n c) (.int .i64 i) λm=>lI h m λl=>xR (aI SS.P 172 1 [(0,(.int .u8 (wrap .u8 (wrap .i64 (48+l)))))]) h λ_ g j k=>xE (bH SS.P 172 172 (.slice r o p) (sA (h.next) g j) k) k λb d e _ f=>aJ (LA4 (iU a n c) s) q [(.slice a n c),(.slice b d e),(.int .i64 (wrap .i64 (i-1)))] f) (au ((((o:Int):Int)==0)) (Q (strOf [48]) h) (xS (BT SS.P 172 9 (.slice r o p) h) λa=>Q (strOf a) h))) (q:Nat) {i:Int} {r:OA} {o p:Nat} {h:ae} (t:s q i r o p h):LL SS eG [1,1,1,1,0,1,0,0] (iU a n c i r o p) h (KK SS eG [1,1,1,1,0,1,0] [] (EE SS eG Q)):=
 VO (iU a n c) s (λq i r o p u h t=>ai (step q i r o p u h t)) q t
variable{g:ae}{m:Nat}{y:List Nat}
theorem PU(z:Int):aI SS.P 22 1 [(0,.int .i64 z)]=some (.cells [.int .i64 z] 3 1 true,mR 1 1):=by kernel_rfl
theorem aaq(z:Int):aI SS.P 172 1 [(0,.int .u8 z)]=some (.cells [.int .u8 z] 5 1 true,mR 1 1):=by kernel_rfl
theorem Br:SS.P.underlying 172=some (.slice 5):=by kernel_rfl
theorem un5:SS.P.underlying 5=some (.int .u8):=by kernel_rfl
theorem zz5:aG SS.P 5=some 1:=by kernel_rfl
theorem ag5:Go.Ab.isAgg SS.P 5=false:=by kernel_rfl
noncomputable def re5:TypeInfo:=(eW SS.P 5).getD default
theorem abN:eW SS.P 5=some re5:=by kernel_rfl
theorem Vx:re5.size=1:=by kernel_rfl
theorem Rr:re5.bytes=1:=by kernel_rfl
theorem Ed(d:Wf g)(e:Ok g h){v:Value}{a:List Value}(o:eo g h 3 v a)(z:Int)(f:a.length<=100000):
  ∃(b:Option Addr)(n c:Nat)(u:dP),bH SS.P 22 22 v (.slice (some ⟨h.next,0,none⟩) 1 1) (h.push (.cells [.int .i64 z] 3 1 true))=some (.slice b n c,u)/\n=a.length+1/\eo g (u.app (h.push (.cells [.int .i64 z] 3 1 true))) 3 (.slice b n c) (a++[.int .i64 z])/\Ok g (u.app (h.push (.cells [.int .i64 z] 3 1 true))):=
 eo.snoc qG Vw KR d e o rfl (by rw[Gx];omega) (by omega)
theorem O3(d:Wf g)(e:Ok g h){v:Value}{a:List Value}(o:eo g h 5 v a)(z:Int)(f:a.length<=100000):
  ∃(b:Option Addr)(n c:Nat)(u:dP),bH SS.P 172 172 v (.slice (some ⟨h.next,0,none⟩) 1 1) (h.push (.cells [.int .u8 z] 5 1 true))=some (.slice b n c,u)/\n=a.length+1/\eo g (u.app (h.push (.cells [.int .u8 z] 5 1 true))) 5 (.slice b n c) (a++[.int .u8 z])/\Ok g (u.app (h.push (.cells [.int .u8 z] 5 1 true))):=
 eo.snoc Br abN Vx d e o rfl (by rw[Rr];omega) (by omega)
theorem Qe(c:UInt8)(l:List UInt8):fy (c::l)=fy l++[jx c]:=by simp[fy]
theorem F4(h:i<s.length):s.drop i=s.getD i 0::s.drop (i+1):=by
 rw[gD,gE h,drop_eq_getElem_cons h];rfl
theorem CW(a:s.all bR=true){i:Nat}(h:i<s.length):bR (s.getD i 0)=true:=by
 rw[gD,gE h];exact all_eq_true.1 a _ (getElem_mem h)
def je(h:ae)(e:TypeId)(d:List Value):VH:=λv b=>∃a n c,v = .slice a n c/\eo h b e (.slice a n c) d/\Ok h b
theorem sy(l:List UInt8)(C:l.all bR=true)(t:l.length<=100000)(h:ae)(w:Wf h):FW SS 150 [strOf l] h (je h 3 ((fy l).map iv)):=by
 have L:=uo l (λk i a n c g=> -1<=i/\i<l.length/\k=(i+1).toNat/\eo h g 3 (.slice a n c) ((fy (l.drop (i+1).toNat)).map iv)/\Ok h g) (je h 3 ((fy l).map iv)) (by
  intro k i a n c;intros;rename_i g y;obtain⟨F,x,E,r,s⟩:=y;refine aa (λf=>?_) (λf=>?_)
  ·have f:=dT f;have j:i.toNat<l.length:=by omega
   have p:=CW C j;have D:=lD.1 p;refine⟨_,BJ (h:=g) l f x,_,_,_,PU _,?_⟩;obtain⟨b,m,d,u,B,G,o,z⟩:=Ed w s r (wrap .i64 (wrap .u8 ((((l.getD i.toNat 0).toNat:Nat):Int)-48))) (by simp[fy];omega);refine⟨b,m,d,u,B,?_⟩;have e:wrap .i64 (i-1)=i-1:=aB (by omega) (by omega);refine Ub (k-1) (by omega) ?_;rw[e];refine⟨by omega,by omega,by omega,?_,z⟩;have q:wrap .i64 (wrap .u8 ((((l.getD i.toNat 0).toNat:Nat):Int)-48))=((jx (l.getD i.toNat 0):Nat):Int):=by
    rw[sY (by omega) (by omega),aB (by omega) (by omega)];unfold jx;omega
   rw[q]at o;have A:(i-1+1).toNat=i.toNat:=by omega
   have v:(i+1).toNat=i.toNat+1:=by omega
   rw[v]at o;rw[q,A,F4 j,Qe,map_append];exact o
  ·have f:=dF f;obtain rfl:i = -1:=by omega
   exact⟨a,n,c,rfl,r,s⟩)
 have e:wrap .i64 ((l.length:Int)-1)=(l.length:Int)-1:=aB (by omega) (by omega);refine Ir l h _ ?_;refine L l.length ⟨by rw[e];omega,by rw[e];omega,by rw[e];omega,?_,Ok.refl w⟩;rw[e,show((l.length:Int)-1+1).toNat=l.length by omega,List.drop_length];exact .inl ⟨rfl,rfl⟩
theorem D4{b:Option Addr}{c:Nat}(N:Rd h 3 (.slice a n c) (x.map iv))(S:Rd h 3 (.slice b m i) (y.map iv))(R:∀i∈x,i<10)(U:∀i∈y,i<10)(O:x.length<=100000)(w:Wf h):
  FW SS 155 [.slice a n c,.slice b m i] h (je h 3 ((bj fq x y 0 x.length 0).map iv)):=by
 have W:n=x.length:=by have:=N.len;rwa[lM]at this
 have J:∀k,eO fq x y 0 0 k<=1:=Oc (λp q c _=>by unfold fq;split<;>simp) x y 0 0 (by omega);have L:=wZ a n c b m i (λt k cc r z B g=>k<=x.length/\t=x.length-k/\cc=eO fq x y 0 0 k/\eo h g 3 (.slice r z B) ((bj fq x y 0 k 0).map iv)/\Ok h g) (je h 3 ((bj fq x y 0 x.length 0).map iv)) (by
  intro t k cc r z B;intros;rename_i g T;obtain⟨X,Z,P,F,o⟩:=T;have V:=J k;have hp:=ba (by omega) R k;have Y:=ba (by omega) U k;refine aa (λs=>?_) (λs=>?_)
  ·have s:=dT s;refine(um (N.ok o) k).mono ?_;rintro _ _ ⟨rfl,rfl⟩;refine⟨_,rfl,(um (S.ok o) k).mono ?_⟩;rintro _ _ ⟨rfl,rfl⟩;refine⟨_,rfl,?_⟩;have M:wrap .i64 (((x.getD k 0:Nat):Int)-((y.getD k 0:Nat):Int))=((x.getD k 0:Nat):Int)-((y.getD k 0:Nat):Int):=aB (by omega) (by omega);have I:wrap .i64 (((x.getD k 0:Nat):Int)-((y.getD k 0:Nat):Int)-(cc:Int))=((x.getD k 0:Nat):Int)-((y.getD k 0:Nat):Int)-(cc:Int):=aB (by omega) (by omega);have K:wrap .i64 ((k:Int)+1)=((k+1:Nat):Int):=by rw[aB (by omega) (by omega)];omega
   dsimp only;rw[M,I,K];have v:(bj fq x y 0 k 0).length=k:=fb _ _ _ _ _ _;have f:=im fq x y k 0 0;have j:eO fq x y 0 0 (k+1)=(fq (x.getD (0+k) 0) (y.getD (0+k) 0) (eO fq x y 0 0 k)).2:=rfl;rw[Nat.zero_add,<-P]at f j;refine aa (λl=>?_) (λl=>?_)
   ·have l:=dT l;refine⟨_,_,_,PU _,?_⟩;obtain⟨E,C,A,u,D,Q,e,H⟩:=Ed w o F (wrap .i64 (((x.getD k 0:Nat):Int)-((y.getD k 0:Nat):Int)-(cc:Int)+10)) (by rw[lM,v];omega);refine⟨E,C,A,u,D,?_⟩;have d:fq (x.getD k 0) (y.getD k 0) cc=(x.getD k 0+10-y.getD k 0-cc,1):=by unfold fq;rw[if_pos (by omega)]
    refine pf (b:=1) (t-1) (by omega) ⟨by omega,by omega,by rw[j,d],?_,H⟩;rw[f,d,map_append];have G:wrap .i64 (((x.getD k 0:Nat):Int)-((y.getD k 0:Nat):Int)-(cc:Int)+10)=((x.getD k 0+10-y.getD k 0-cc:Nat):Int):=by rw[aB (by omega) (by omega)];omega
    rw[G]at e⊢;exact e
   ·have l:=dF l;refine⟨_,_,_,PU _,?_⟩;obtain⟨E,C,A,u,D,Q,e,H⟩:=Ed w o F (((x.getD k 0:Nat):Int)-((y.getD k 0:Nat):Int)-(cc:Int)) (by rw[lM,v];omega);refine⟨E,C,A,u,D,?_⟩;have d:fq (x.getD k 0) (y.getD k 0) cc=(x.getD k 0-y.getD k 0-cc,0):=by unfold fq;rw[if_neg (by omega)]
    refine pf (b:=0) (t-1) (by omega) ⟨by omega,by omega,by rw[j,d],?_,H⟩;rw[f,d,map_append];have G:((x.getD k 0:Nat):Int)-((y.getD k 0:Nat):Int)-(cc:Int)=((x.getD k 0-y.getD k 0-cc:Nat):Int):=by omega
    rw[G]at e⊢;exact e
  ·have s:=dF s;obtain rfl:k=x.length:=by omega
   exact⟨r,z,B,rfl,F,o⟩)
 exact Nt a n c b m i h _ (L x.length (k:=0) (cc:=0) ⟨by omega,by omega,rfl,.inl ⟨rfl,rfl⟩,Ok.refl w⟩)
theorem O4(r:Rd h 5 v (s.map ti)):BT SS.P 172 9 v h=some (strOf s):=ZO Br ZN un5 r
theorem Fw{z:Nat}(b:i<z)(c:z<=x.length):((x.take z).drop i).reverse=((x.take z).drop (i+1)).reverse++[x.getD i 0]:=by
 have a:i<(x.take z).length:=by rw[length_take];omega
 rw[drop_eq_getElem_cons a,List.reverse_cons,List.getElem_take,gD,gE (by omega)];rfl
theorem sC{c:Nat}(L:Rd h 3 (.slice a n c) (x.map iv))(P:∀d∈x,d<10)(V:x.length<=100000)(w:Wf h):
  FW SS 153 [.slice a n c] h (λv D=>v=strOf (ag (Num.bv 10 x))/\Ok h D):=by
 have hn:n=x.length:=by have:=L.len;rwa[lM]at this
 have Q:=λ(f:Nat) (hz:f<=x.length) (T:0<x.length->0<f) (W:0<x.length->tH (x.take f)=ag (Num.bv 10 x))=>xd a n c (λy i r H R g=> -1<=i/\i<(f:Int)/\y=(i+1).toNat/\eo h g 5 (.slice r H R) ((((x.take f).drop (i+1).toNat).reverse.map eZ).map ti)/\Ok h g) (λv D=>v=strOf (ag (Num.bv 10 x))/\Ok h D) (by
  intro y i r H R;intros;rename_i g M;obtain⟨h1,h2,Y,t,J⟩:=M;refine aa (λq=>?_) (λq=>?_)
  ·have q:=dT q;obtain⟨p,K,F⟩:=(L.ok J).at_ qG Sr G0 FT (k:= .i64) (i:=i) q (by rw[lM];omega);rw[tT x i.toNat (by omega)]at F;refine⟨p,K,_,F,_,_,_,aaq _,?_⟩;have N:=ba (by omega) P i.toNat;obtain⟨b,m,d,u,g6,g7,O,g9⟩:=O3 w J t (wrap .u8 (wrap .i64 (48+((x.getD i.toNat 0:Nat):Int)))) (by simp;omega);refine⟨b,m,d,u,g6,?_⟩;have I:wrap .i64 (i-1)=i-1:=aB (by omega) (by omega);refine Ub (y-1) (by omega) ?_;rw[I];refine⟨by omega,by omega,by omega,?_,g9⟩;rw[show(i-1+1).toNat=i.toNat by omega,Fw (by omega) hz,map_append,map_append];rw[show(i+1).toNat=i.toNat+1 by omega]at O;have X:ti (eZ (x.getD i.toNat 0)) = .int .u8 (wrap .u8 (wrap .i64 (48+((x.getD i.toNat 0:Nat):Int)))):=by
    unfold ti;rw[jA N,aB (by omega) (by omega),sY (by omega) (by omega)]
    first|rfl|(congr 1;omega)
   show eo h _ 5 _ (_++[ti (eZ (x.getD i.toNat 0))]);rw[X];exact O
  ·have q:=dF q;obtain rfl:i = -1:=by omega
   have e0:((-1:Int)+1).toNat=0:=rfl;rw[e0,drop_zero]at t;have S:=t.len;simp only[lM,List.length_reverse,length_take]at S;refine aa (λo=>?_) (λo=>?_)
   ·have o:(H:Int)=0:=by simpa using o
    have E:x=[]:=by
     rcases Nat.eq_zero_or_pos x.length with e|e
     ·exact List.eq_nil_of_length_eq_zero e
     ·have:=T e;omega
    subst E;exact⟨by rw[show Num.bv 10 []=0 from rfl,oe],J⟩
   ·have o:¬(H:Int)=0:=by simpa using o
    have E:0<x.length:=by omega
    have:=O4 t.rd;rw[show((x.take f).reverse.map eZ)=tH (x.take f)from rfl,W E]at this;exact⟨_,this,rfl,J⟩)
 have s:∀(f:Nat),eo h h 5 (.slice none 0 0) ((((x.take f).drop ((f:Int)-1+1).toNat).reverse.map eZ).map ti):=λf=>by
  rw[show((f:Int)-1+1).toNat=f by omega,List.drop_of_length_le (by rw[length_take];omega)];exact .inl ⟨rfl,rfl⟩
 have L1:=xb a n c (λy z g=>0<=z/\z<=x.length/\y=z.toNat/\(0<x.length->0<z)/\(∀j:Nat,z<=j->x.getD j 0=0)/\g=h) (λv D=>v=strOf (ag (Num.bv 10 x))/\Ok h D) (by
  intro y z;intros;rename_i g M;obtain⟨h1,h2,Y,t,q,rfl⟩:=M;obtain⟨f,rfl⟩:∃f:Nat,z=f:=⟨z.toNat,by omega⟩
  have I:wrap .i64 ((f:Int)-1)=(f:Int)-1:=aB (by omega) (by omega);have B:(1<f->x.getD (f-1) 0≠0)->0<x.length->tH (x.take f)=ag (Num.bv 10 x):=λZ C=>by
   rw[<-Cz (l:=x) (n:=f) (λj U=>q j (by omega))];refine Ps (λd N=>P d (List.mem_of_mem_take N)) (λe=>?_) (λA=>?_)
   ·have:=congrArg List.length e;rw[length_take]at this;have h9:min f x.length=0:=this;have:=t C;omega
   ·rw[length_take]at A;have G:=Z (by omega);rw[List.getLast?_eq_getElem?,length_take,List.getElem?_take,if_pos (by omega)];rw[gD,gE (by omega)]at G;rw[show min f x.length-1=f-1 by omega,gE (by omega)];simpa using G
  refine aa (λo=>?_) (λo=>?_)
  ·have o:=dT o;rw[I];obtain⟨p,K,F⟩:=L.at_ qG Sr G0 FT (k:= .i64) (i:=(f:Int)-1) (by omega) (by rw[lM];omega);rw[tT x _ (by omega),show((f:Int)-1).toNat=f-1 by omega]at F;refine⟨p,K,_,F,aa (λA=>?_) (λA=>?_)⟩
   ·have A:((x.getD (f-1) 0:Nat):Int)=0:=by simpa using A
    refine bZ (y-1) (by omega) ⟨by omega,by omega,by omega,λ_=>by omega,λj U=>?_,rfl⟩;rcases lt_or_ge j f with G|G
    ·obtain rfl:j=f-1:=by omega
     omega
    ·exact q j (by omega)
   ·have A:¬((x.getD (f-1) 0:Nat):Int)=0:=by simpa using A
    exact Q f (by omega) (λC=>by have:=t C;omega) (B λ_=>by omega) f ⟨by omega,by omega,by omega,s f,Ok.refl w⟩
  ·have o:=dF o;rw[I];exact Q f (by omega) (λC=>by have:=t C;omega) (B λhh=>by omega) f ⟨by omega,by omega,by omega,s f,Ok.refl w⟩)
 refine Nu a n c h _ (L1 n (z:=(n:Int)) ⟨by omega,by omega,by omega,λC=>by omega,λj U=>?_,rfl⟩);rw[gD,List.getElem?_eq_none (by omega)];rfl
noncomputable def cE:FD:=cF Tryz.f137 [([1,1,1,1,1,0,1,0,0],[0,1,7,8,9]),([1,1,1,1,1,0,1,0,0,1,0,0,1,1,0,0,0],[0,1,7,8,9,10]),([1,1,1,1,1,1,1,0,0,0],[0,1,7,8,11])]
abbrev fX(a b:LB)(k:Nat)(r:LB)(q:OA)(d c:Nat):LV:=[(strOf a),(strOf b),(.slice q d c),(strOf r),(iA k)]
abbrev jN(a b:LB)(k:Nat)(q:OA)(e c:Nat)(r:LB)(d:Int):LV:=[(strOf a),(strOf b),(.slice q e c),(strOf r),(iA k),(.int .u8 d)]
abbrev mc(a b r:LB)(q:OA)(d c:Nat)(z:Nat):LV:=[(strOf a),(strOf b),(.slice q d c),(strOf r),(iA z)]
theorem RC(a b:LB)(h:ae)(Q:VH)(i:FW SS 136 [(strOf a)] h λg h=>yB g λf=>au (!f) (Q (.tuple ⟨[(strOf []),(strOf []),(.int .i64 1)]⟩) h) (FW SS 136 [(strOf b)] h λd e=>yB d λc=>au (!c) (Q (.tuple ⟨[(strOf []),(strOf []),(.int .i64 1)]⟩) e) (au ((b:LB)==[48]) (Q (.tuple ⟨[(strOf []),(strOf []),(.int .i64 4)]⟩) e) (LL SS cE [1,1,1,1,1,0,1,0,0] (fX a b 0 ([48]) none 0 0) e (KK SS cE [1,1,1,1,1,0,1,0] [] (EE SS cE Q)))))):FW SS 137 [(strOf a),(strOf b)] h Q:=cI cE Tryz.func137 (ai i)
theorem yK(a b:LB)  (g:Nat->Nat->LB->OA->Nat->Nat->ae->Prop) (Q:VH) (step:∀(i:Nat)(k:Nat)(r:LB)(q:OA)(f e:Nat)(l:Nat->Value)(h:ae),g i k r q f e h->au (decide (((k:Int):Int)<((a:LB).length:Int))) (au ((r:LB)==[48]) (xS (bF SS.P 9 (strOf a) (some (iA k)) (some (.int .i64 (wrap .i64 ((k:Int)+1)))) none h) λc=>LL SS cE [1,1,1,1,1,0,1,0,0,1,0,0,1,1,0,0,0] (jN a b k q f e c 48) h (KK SS cE [1,0,0,1,1,0,0] [1,1,1,1,1,0,1,0,0] (RR cE [1,1,1,1,1,0,1,0,0] (Ct (fX a b) g) i (KK SS cE [1,1,1,1,1,0,1,0] [] (EE SS cE Q))))) (xS (bF SS.P 9 (strOf a) (some (iA k)) (some (.int .i64 (wrap .i64 ((k:Int)+1)))) none h) λd=>xS (ay SS.P .add 9 (strOf r) (strOf d)) λc=>LL SS cE [1,1,1,1,1,0,1,0,0,1,0,0,1,1,0,0,0] (jN a b k q f e c 48) h (KK SS cE [1,0,0,1,1,0,0] [1,1,1,1,1,0,1,0,0] (RR cE [1,1,1,1,1,0,1,0,0] (Ct (fX a b) g) i (KK SS cE [1,1,1,1,1,0,1,0] [] (EE SS cE Q)))))) (LL SS cE [1,1,1,1,1,1,1,0,0,0] (mc a b r q f e 0) h (KK SS cE [1,1,1,1,1,1,1,0,0] [] (EE SS cE Q)))) (i:Nat) {k:Nat} {r:LB} {q:OA} {f e:Nat} {h:ae} (j:g i k r q f e h):LL SS cE [1,1,1,1,1,0,1,0,0] (fX a b k r q f e) h (KK SS cE [1,1,1,1,1,0,1,0] [] (EE SS cE Q)):=
 GF (fX a b) g (λi k r q f e l h j=>ai (step i k r q f e l h j)) i j
theorem yM(a b:LB)(E:Nat->Nat->LB->OA->Nat->Nat->ae->Prop)(G k:Nat)(q:OA)(D C:Nat)(B:Nat->LB->Int->ae->Prop)(Q:VH)(step:∀(A:Nat) (r:LB) (d:Int) (H:Nat->Value) (h:ae),B A r d h->FW SS 154 [(strOf r),(strOf b)] h λy z=>yI .i64 y λx=>au (decide ((x:Int)>=0)) (FW SS 150 [(strOf r)] z λv w=>yL v λs t u=>FW SS 150 [(strOf b)] w λp r=>yL p λm n o=>FW SS 155 [(.slice s t u),(.slice m n o)] r λj l=>yL j λg h i=>FW SS 153 [(.slice g h i)] l λe f=>yS e λc=>aJ (pL (jN a b k q D C) B) A [(strOf a),(strOf b),(.slice q D C),(strOf c),(iA k),(.int .u8 (wrap .u8 (d+1)))] f) (xR (aI SS.P 172 1 [(0,(.int .u8 d))]) z λ_ g h i=>xE (bH SS.P 172 172 (.slice q D C) (sA (z.next) g h) i) i λc d e _ f=>aJ (Ct (fX a b) E) G [(strOf a),(strOf b),(.slice c d e),(strOf r),(.int .i64 (wrap .i64 ((k:Int)+1)))] f))(A:Nat){r:LB}{d:Int}{h:ae}(F:B A r d h):LL SS cE [1,1,1,1,1,0,1,0,0,1,0,0,1,1,0,0,0] (jN a b k q D C r d) h (KK SS cE [1,0,0,1,1,0,0] [1,1,1,1,1,0,1,0,0] (RR cE [1,1,1,1,1,0,1,0,0] (Ct (fX a b) E) G (KK SS cE [1,1,1,1,1,0,1,0] [] (EE SS cE Q)))):=
 mh (jN a b k q D C) B (λA r d H h F=>ai (step A r d H h F)) A F
theorem yN(a b:LB)(r:LB)(q:OA)(g j:Nat)(k:Nat->Nat->ae->Prop)(Q:VH)(step:∀(i:Nat) (z:Nat) (m:Nat->Value) (h:ae),k i z h->au (decide (((z:Int):Int)<wrap .i64 ((g:Int)-1))) (iP 172 (.slice q g j) (iA z) λf=>xI .u8 (aj SS.P 5 h (.pointer (some f))) λe=>au (((e:Int)==48)) (aJ (fs (mc a b r q g j) k) i [(strOf a),(strOf b),(.slice q g j),(strOf r),(.int .i64 (wrap .i64 ((z:Int)+1)))] h) (xL (bF SS.P 172 (.slice q g j) (some (iA z)) none none h) λb c d=>xS (BT SS.P 172 9 (.slice b c d) h) λa=>Q (.tuple ⟨[(strOf a),(strOf r),(.int .i64 0)]⟩) h)) (xL (bF SS.P 172 (.slice q g j) (some (iA z)) none none h) λb c d=>xS (BT SS.P 172 9 (.slice b c d) h) λa=>Q (.tuple ⟨[(strOf a),(strOf r),(.int .i64 0)]⟩) h))(i:Nat){z:Nat}{h:ae}(l:k i z h):LL SS cE [1,1,1,1,1,1,1,0,0,0] (mc a b r q g j z) h (KK SS cE [1,1,1,1,1,1,1,0,0] [] (EE SS cE Q)):=
 dc (mc a b r q g j) k (λi z m h l=>ai (step i z m h l)) i l
noncomputable def pz:FD:=cF Tryz.f118 [([1,1,0,0,0],[0,1])]
abbrev me  (x y:LB):LV:=[(strOf x),(strOf y)]
theorem RD(a b:LB)(h:ae)(Q:VH)(i:FW SS 136 [(strOf a)] h λg h=>yB g λf=>au (!f) (Q (.tuple ⟨[(strOf []),(.int .i64 1)]⟩) h) (FW SS 136 [(strOf b)] h λd e=>yB d λc=>au (!c) (Q (.tuple ⟨[(strOf []),(.int .i64 1)]⟩) e) (LL SS pz [1,1,0,0,0] (me a b) e (KK SS pz [1,1,0,0] [] (EE SS pz Q))))):FW SS 118 [(strOf a),(strOf b)] h Q:=cI pz Tryz.func118 (ai i)
theorem yP(a b:LB)  (g:Nat->LB->LB->ae->Prop) (Q:VH) (step:∀(f:Nat)(x y:LB)(j:Nat->Value)(h:ae),g f x y h->au (!((y:LB)==[48])) (FW SS 137 [(strOf x),(strOf y)] h λd e=>∃c:LB,∃b:LB,∃a:Int,d=(.tuple ⟨[(strOf c),(strOf b),(.int .i64 a)]⟩)/\aJ (pL me g) f [(strOf y),(strOf b)] e) (Q (.tuple ⟨[(strOf x),(.int .i64 0)]⟩) h)) (f:Nat) {x y:LB} {h:ae} (i:g f x y h):LL SS pz [1,1,0,0,0] (me  x y) h (KK SS pz [1,1,0,0] [] (EE SS pz Q)):=
 mh me g (λf x y j h i=>ai (step f x y j h i)) f i
variable{k:Nat}
theorem Wa(l:List UInt8){h:ae}{a b:Nat}(c:a<=b)(d:b<=l.length):bF SS.P 9 (strOf l) (some (.int .i64 (a:Int))) (some (.int .i64 (b:Int))) none h=some (strOf ((l.drop a).take (b-a))):=oH ZN l rfl rfl c d
theorem US(h:k<s.length):(s.drop k).take (k+1-k)=[s.getD k 0]:=by
 rw[F4 h,show k+1-k=1 by omega];rfl
theorem fZ(h:n<10^1000):(ag n).length<=1000:=(dO (by omega)).2 h
theorem MF(h:k<s.length):s[k]?=some (s.getD k 0):=by
 rw[gD,gE h];rfl
def three(a b:List UInt8)(e:Int):Value:= .tuple ⟨[strOf a,strOf b,.int .i64 e]⟩
theorem As(m n:Nat)(L:m<10^1000)(B:n<10^1000)(U:0<n)(h:ae)(w:Wf h):FW SS 137 [strOf (ag m),strOf (ag n)] h (λv D=>v=three (ag (m/n)) (ag (m%n)) 0/\Ok h D):=by
 have u4:=fZ L;have z8:=fZ B;have z1:=cX m;generalize ha:ag m=a at*;have y5:Num.val a=m:=by rw[<-ha,bu]
 have y7:¬ag n=[48]:=λe=>by have:=bL.1 e;omega
 have L3:=λ(g0:ae) (r:List UInt8) (q:Option Addr) (l x:Nat) (c:List UInt8) (M:eo h g0 5 (.slice q l x) (c.map ti)) (hq:c.all bR=true) (z7:0<c.length) (z9:c.length<=1000) (y4:Num.val c=m/n) (y:r=ag (m%n)) (N:Ok h g0)=>
  yN a (ag n) r q l x (λs z g=>z+1<=c.length/\s=c.length-z/\(∀i,i<z->c[i]?=some 48)/\g=g0) (λv D=>v=three (ag (m/n)) (ag (m%n)) 0/\Ok h D) (by
  intro s z;intros;rename_i g O;obtain⟨h1,h2,h3,rfl⟩:=O;have u2:l=c.length:=by have:=M.len;rwa[lM]at this
  have hw:wrap .i64 ((l:Int)-1)=(l:Int)-1:=aB (by omega) (by omega);have E:wrap .i64 ((z:Int)+1)=((z+1:Nat):Int):=by rw[aB (by omega) (by omega)];omega
  have x3:(z+1<c.length->c[z]?≠some 48)->∃(x4:Option Addr)(x5 x2:Nat),bF SS.P 172 (.slice q l x) (some (.int .i64 (z:Int))) none none g=some (.slice x4 x5 x2)/\∃Y:List UInt8,BT SS.P 172 9 (.slice x4 x5 x2) g=some (strOf Y)/\(three Y r 0=three (ag (m/n)) (ag (m%n)) 0/\Ok h g):=λhs=>by
   obtain⟨a',n',c',g1,A⟩:=M.from_ Br zz5 (z:=z) (by rw[lM];omega);rw[<-List.map_drop]at A;refine⟨a',n',c',g1,_,O4 A,?_,N⟩;rw[Jn hq (by omega) h3 hs,y4,y]
  rw[hw,E];refine aa (λo=>?_) (λo=>?_)
  ·have o:=dT o;obtain⟨p,A,X⟩:=M.rd.at_ Br zz5 un5 ag5 (k:= .i64) (i:=(z:Int)) (by omega) (by rw[lM];omega);have C:(c.map ti).getD ((z:Int)).toNat undef = .int .u8 ((c.getD z 0).toNat:Nat):=by
    rw[Int.toNat_natCast,gD,List.getElem?_map,MF (by omega)];rfl
   rw[C]at X;refine⟨p,A,_,X,aa (λf=>?_) (λf=>?_)⟩
   ·have f:=GZ.1 f;refine bZ (s-1) (by omega) ⟨by omega,by omega,λi O=>?_,rfl⟩;rcases lt_or_ge i z with t|t
    ·exact h3 i t
    ·obtain rfl:i=z:=by omega
     rw[MF (by omega),f]
   ·exact x3 λ_ e=>by
     rw[MF (by omega)]at e;rw[GZ.2 (oI e)]at f;cases f
  ·have o:=dF o;exact x3 λhh=>by omega)
 have L1:=yK a (ag n) (λs k r q l x g=>k<=a.length/\s=a.length-k/\r=ag (Num.val (a.take k)%n)/\(∃c:List UInt8,c.length=k/\c.all bR=true/\Num.val c=Num.val (a.take k)/n/\eo h g 5 (.slice q l x) (c.map ti))/\Ok h g) (λv D=>v=three (ag (m/n)) (ag (m%n)) 0/\Ok h D) (by
  intro s k r q l x;intros;rename_i g O;obtain⟨h1,h2,y,⟨c,y2,x9,G,M⟩,N⟩:=O;refine aa (λo=>?_) (λo=>?_)
  ·have o:=dT o;have F:k<a.length:=by omega
   have S:=CW z1 F;have y6:=rr S;have y0:=mod_lt (Num.val (a.take k)) U;have E:wrap .i64 ((k:Int)+1)=((k+1:Nat):Int):=by rw[aB (by omega) (by omega)];omega
   have x7:Num.val (a.take (k+1))=10*Num.val (a.take k)+jx (a.getD k 0):=tc (MF F);have K:=Hi (r:=Num.val (a.take k)%n) S;have L2:=yM a (ag n) (λs k r q l x g=>k<=a.length/\s=a.length-k/\r=ag (Num.val (a.take k)%n)/\(∃c:List UInt8,c.length=k/\c.all bR=true/\Num.val c=Num.val (a.take k)/n/\eo h g 5 (.slice q l x) (c.map ti))/\Ok h g) s k q l x
    (λx0 r d A=>∃j:Nat,d=48+(j:Int)/\j*n<=10*(Num.val (a.take k)%n)+jx (a.getD k 0)/\r=ag (10*(Num.val (a.take k)%n)+jx (a.getD k 0)-j*n)/\x0=10*(Num.val (a.take k)%n)+jx (a.getD k 0)-j*n/\Ok g A) (λv D=>v=three (ag (m/n)) (ag (m%n)) 0/\Ok h D) (by
    intro x0 r2 d;intros;rename_i A z4;obtain⟨j,rfl,x6,rfl,u3,J⟩:=z4;have P:=Ja U y6 x6;generalize hR:10*(Num.val (a.take k)%n)+jx (a.getD k 0)=R at*;have z6:(ag (R-j*n)).length<=1001:=by
     have z5:=oV n;refine Nat.le_trans ((dO (k:=(ag n).length+1) (by omega)).2 ?_) (by omega);rw[Nat.pow_succ];generalize 10^(ag n).length=T at z5;clear B L;omega
    have y9:=N.trans J;refine(qF (R-j*n) n (by omega) (by omega) A y9.wf).mono ?_;rintro _ X ⟨rfl,H⟩;refine⟨_,rfl,aa (λf=>?_) (λf=>?_)⟩
    ·have f:=FE.1 (dT f);refine(sy _ (cX _) (by omega) X H.wf).mono ?_;rintro _ g4 ⟨a1,n1,c1,rfl,o1,x8⟩;refine⟨a1,n1,c1,rfl,(sy _ (cX _) (by omega) g4 x8.wf).mono ?_⟩;rintro _ g5 ⟨a2,n2,c2,rfl,o2,Q⟩;refine⟨a2,n2,c2,rfl,(D4 (o1.rd.ok Q) o2.rd (my (cX _)) (my (cX _)) (by rw[k9];omega) Q.wf).mono ?_⟩;rintro _ g6 ⟨a3,n3,c3,rfl,o3,x1⟩;refine⟨a3,n3,c3,rfl,(sC o3.rd (FG (my (cX _)) (my (cX _)) _ _ _ (by omega)) (by rw[fb,k9];omega) x1.wf).mono ?_⟩;rintro _ g7 ⟨rfl,z0⟩;have z2:(ag n).length<=(ag (R-j*n)).length:=by
      rcases lt_or_ge (ag (R-j*n)).length (ag n).length with t|t
      ·have:=lV t;omega
      ·exact t
     have Z:=FF (my (cX (R-j*n))) (my (cX n)) (by rw[k9,k9];exact z2) (by rw[gk,gk,bu,bu];exact f);rw[gk,gk,bu,bu]at Z;rw[Z];refine⟨_,rfl,?_⟩;have y3:wrap .u8 (48+(j:Int)+1)=48+((j+1:Nat):Int):=by rw[sY (by omega) (by omega)];omega
     rw[y3];have C:(j+1)*n=j*n+n:=Nat.succ_mul j n;exact gY (R-j*n-n) (by clear B L;omega) ⟨j+1,rfl,by rw[C];clear B L;omega,by rw[C,Nat.sub_sub],by rw[C,Nat.sub_sub],((((J.trans H).trans x8).trans Q).trans x1).trans z0⟩
    ·have f:¬(n<=R-j*n):=λe=>by have:=dF f;exact this (FE.2 e)
     have W:=Jb (V:=Num.val (a.take k)) (d:=jx (a.getD k 0)) U (k:=j) (by rw[hR];exact x6) (by rw[hR,Nat.succ_mul];clear B L;omega);rw[hR]at W;refine⟨_,_,_,aaq _,?_⟩;have y8:=N.trans (J.trans H);obtain⟨b,mm,dd,u,g6,g7,g8,g9⟩:=O3 w y8 (M.ok (J.trans H)) (48+(j:Int)) (by rw[lM];omega);refine⟨b,mm,dd,u,g6,?_⟩;rw[E];refine pf (s-1) (by omega) ⟨by omega,by omega,?_,⟨c++[eZ j],by simp[y2],?_,?_,?_⟩,g9⟩
     ·rw[x7,W.2]
     ·rw[List.all_append,x9];simp[tA P]
     ·rw[iy,G,CF P,x7,W.1]
     ·rw[map_append];have C:ti (eZ j) = .int .u8 (48+(j:Int)):=by
       unfold ti;rw[jA P];rfl
      show eo h _ 5 _ (_++[ti (eZ j)]);rw[C];exact g8)
   have I:∀r',r'=ag (10*(Num.val (a.take k)%n)+jx (a.getD k 0))->∃j:Nat,(48:Int)=48+(j:Int)/\j*n<=10*(Num.val (a.take k)%n)+jx (a.getD k 0)/\r'=ag (10*(Num.val (a.take k)%n)+jx (a.getD k 0)-j*n)/\10*(Num.val (a.take k)%n)+jx (a.getD k 0)=10*(Num.val (a.take k)%n)+jx (a.getD k 0)-j*n/\Ok g g:=
    λr' e=>⟨0,rfl,by rw[Nat.zero_mul];exact Nat.zero_le _,by rw[Nat.zero_mul,sub_zero];exact e,by rw[Nat.zero_mul,sub_zero],Ok.refl N.wf⟩
   rw[E];refine aa (λf=>?_) (λf=>?_)
   ·have f:r=[48]:=by simpa using f
    refine⟨_,Wa a (by omega) (by omega),?_⟩;rw[US F];refine L2 _ (I _ ?_);rw[<-K,if_pos (by rw[<-y];exact f)]
   ·have f:¬r=[48]:=by simpa using f
    refine⟨_,Wa a (by omega) (by omega),?_⟩;rw[US F];have u1:r.length<=1000:=by
     rw[y];exact fZ (Nat.lt_trans y0 B)
    refine⟨_,rK r [a.getD k 0] (by simp;omega),?_⟩;refine L2 _ (I _ ?_);rw[<-K,if_neg (by rw[<-y];exact f),y]
  ·have o:=dF o;obtain rfl:k=a.length:=by omega
   rw[List.take_length]at G y;rw[y5]at G y;have u0:0<a.length:=by rw[<-ha];exact nI m
   exact L3 g r q l x c M x9 (by omega) (by omega) G y N c.length (z:=0) ⟨by omega,by omega,λi O=>by omega,rfl⟩)
 refine RC a (ag n) h _ ?_;refine(dr a h).mono ?_;rintro _ _ ⟨rfl,rfl⟩;have z3:Num.valid a=true:=by rw[<-ha];exact ei.2 L
 have y1:Num.valid (ag n)=true:=ei.2 B;refine⟨_,rfl,aa (λf=>?_) (λf=>?_)⟩
 ·rw[z3]at f;cases f
 ·refine(dr (ag n) _).mono ?_;rintro _ _ ⟨rfl,rfl⟩;refine⟨_,rfl,aa (λt=>?_) (λt=>aa (λh8=>?_) (λh8=>?_))⟩
  ·rw[y1]at t;cases t
  ·exact absurd (by simpa using h8) y7
  ·exact L1 a.length (k:=0) ⟨by omega,by omega,by rw[take_zero];simp[jY,oe],⟨[],rfl,rfl,by rw[take_zero];simp[jY],.inl ⟨rfl,rfl⟩⟩,Ok.refl w⟩
def two(a:List UInt8)(e:Int):Value:= .tuple ⟨[strOf a,.int .i64 e]⟩
def BI(a b:List UInt8):Value:=if Num.valid a=true/\Num.valid b=true then two (ag (Nat.gcd (Num.val a) (Num.val b))) 0 else two [] 1
theorem GA(a b:List UInt8)(h:ae)(w:Wf h):FW SS 118 [strOf a,strOf b] h (λv s=>v=BI a b/\Ok h s):=by
 refine RD a b h _ ?_;refine(dr a h).mono ?_;rintro _ _ ⟨rfl,rfl⟩;refine⟨_,rfl,aa (λi=>?_) (λi=>?_)⟩
 ·refine⟨?_,Ok.refl w⟩;unfold BI;rw[if_neg (λe=>by rw[e.1]at i;cases i)];rfl
 ·refine(dr b _).mono ?_;rintro _ _ ⟨rfl,rfl⟩;refine⟨_,rfl,aa (λf=>?_) (λf=>?_)⟩
  ·refine⟨?_,Ok.refl w⟩;unfold BI;rw[if_neg (λe=>by rw[e.2]at f;cases f)];rfl
  ·have o:Num.valid a=true:=by simpa using i
   have k:Num.valid b=true:=by simpa using f
   obtain⟨m,rfl,C,_⟩:=cx o;obtain⟨n,rfl,B,_⟩:=cx k;rename_i u _ _;have L:=yP (ag m) (ag n) (λc x y g=>∃p q:Nat,x=ag p/\y=ag q/\p<10^1000/\q<10^1000/\Nat.gcd p q=Nat.gcd m n/\c=q/\Ok u g) (λv s=>v=BI (ag m) (ag n)/\Ok u s) (by
    intro c x y;intros;rename_i g D;obtain⟨p,q,rfl,rfl,F,r,A,rfl,t⟩:=D;refine aa (λd=>?_) (λd=>?_)
    ·have d:¬ag c=[48]:=by simpa using d
     have l:0<c:=Nat.pos_of_ne_zero λe=>d (bL.2 e);refine(As p c F r l g t.wf).mono ?_;rintro _ G ⟨rfl,z⟩;refine⟨_,_,_,rfl,?_⟩;have j:=mod_lt p l;exact gY (p%c) j ⟨c,p%c,rfl,rfl,r,Nat.lt_trans j r,by rw[<-LX];exact A,rfl,t.trans z⟩
    ·have d:ag c=[48]:=by simpa using d
     have E:=bL.1 d;subst E;refine⟨?_,t⟩;unfold BI;rw[if_pos ⟨o,k⟩,bu,bu,<-A,Nat.gcd_zero_right];rfl)
   exact L n ⟨m,n,rfl,rfl,C,B,rfl,rfl,Ok.refl w⟩
noncomputable def mN:FD:=cF Tryz.f174 [([1,0,0,0],[0])]
abbrev nO  (r:OA) (m d:Nat):LV:=[(.slice r m d)]
theorem DJ(a:OA)(n c:Nat)(h:ae)(Q:VH)(b:LL SS mN [1,0,0,0] [(.slice a n c)] h (KK SS mN [1,0,0] [] (EE SS mN Q))):FW SS 174 [(.slice a n c)] h Q:=cI mN Tryz.func174 (ai b)
theorem pq(a:OA)(n c:Nat)  (i:Nat->OA->Nat->Nat->ae->Prop) (Q:VH) (step:∀(g:Nat)(r:OA)(m d:Nat)(k:Nat->Value)(h:ae),i g r m d h->au (decide (((m:Int):Int)>0)) (iP 177 (.slice r m d) (.int .i64 (wrap .i64 ((m:Int)-1))) λf=>xI .u64 (aj SS.P 150 h (.pointer (some f))) λe=>au (((e:Int)==0)) (xL (bF SS.P 177 (.slice r m d) none (some (.int .i64 (wrap .i64 ((m:Int)-1)))) none h) λa b c=>aJ (LA3 nO i) g [(.slice a b c)] h) (Q (.slice r m d) h)) (Q (.slice r m d) h)) (g:Nat) {r:OA} {m d:Nat} {h:ae} (j:i g r m d h):LL SS mN [1,0,0,0] (nO  r m d) h (KK SS mN [1,0,0] [] (EE SS mN Q)):=
 VN nO i (λg r m d k h j=>ai (step g r m d k h j)) g j
noncomputable def cY:FD:=cF Tryz.f172 [([1,1,0,0,0],[0,3]),([1,1,0,0,0,1,0,1,1,0,1,0,0],[0,3,4,5,6])]
abbrev gC  (s:LB) (r:OA) (a b:Nat):LV:=[(strOf s),(.slice r a b)]
abbrev ji(s:LB)(r:OA)(b c:Nat)(a:Int)(i v:Int):LV:=[(strOf s),(.slice r b c),(.int .i64 a),(.int .u64 v),(.int .i64 i)]
theorem HW(l:LB)(h:ae)(Q:VH)(a:LL SS cY [1,1,0,0,0] [(strOf l),nA] h (KK SS cY [1,1,0,0] [] (EE SS cY Q))):FW SS 172 [(strOf l)] h Q:=cI cY Tryz.func172 (ai a)
theorem tX(l:LB)  (j:Nat->LB->OA->Nat->Nat->ae->Prop) (Q:VH) (step:∀(i:Nat)(s:LB)(r:OA)(f g:Nat)(m:Nat->Value)(h:ae),j i s r f g h->au (decide ((((s:LB).length:Int):Int)>0)) (xI .i64 (sf true [(.int .i64 0),(.int .i64 (wrap .i64 (((s:LB).length:Int)-9)))]) λa=>LL SS cY [1,1,0,0,0,1,0,1,1,0,1,0,0] (ji s r f g a a 0) h (KK SS cY [1,0,1,1,0,1,0] [1,1,0,0,0] (RR cY [1,1,0,0,0] (LA4 gC j) i (KK SS cY [1,1,0,0] [] (EE SS cY Q))))) (FW SS 174 [(.slice r f g)] h λd e=>yL d λa b c=>Q (.slice a b c) e)) (i:Nat) {s:LB} {r:OA} {f g:Nat} {h:ae} (k:j i s r f g h):LL SS cY [1,1,0,0,0] (gC  s r f g) h (KK SS cY [1,1,0,0] [] (EE SS cY Q)):=
 VO gC j (λi s r f g m h k=>ai (step i s r f g m h k)) i k
theorem tY(l:LB)(p:Nat->LB->OA->Nat->Nat->ae->Prop)(t:Nat)(s:LB)(r:OA)(n o:Nat)(m:Int)(k:Nat->Int->Int->ae->Prop)(Q:VH)(step:∀(j:Nat) (i v:Int) (u:Nat->Value) (h:ae),k j i v h->au (decide ((i:Int)<((s:LB).length:Int))) (xI .u8 (bP SS.P 9 (strOf s) (.int .i64 i)) λa=>aJ (pL (ji s r n o m) k) j [(strOf s),(.slice r n o),(.int .i64 m),(.int .u64 (wrap .u64 (wrap .u64 (10*v)+wrap .u64 (wrap .u8 (a-48))))),(.int .i64 (wrap .i64 (i+1)))] h) (xR (aI SS.P 177 1 [(0,(.int .u64 v))]) h λ_ f g i=>xE (bH SS.P 177 177 (.slice r n o) (sA (h.next) f g) i) i λb c d _ e=>xS (bF SS.P 9 (strOf s) none (some (.int .i64 m)) none e) λa=>aJ (LA4 gC p) t [(strOf a),(.slice b c d)] e))(j:Nat){i v:Int}{h:ae}(q:k j i v h):LL SS cY [1,1,0,0,0,1,0,1,1,0,1,0,0] (ji s r n o m i v) h (KK SS cY [1,0,1,1,0,1,0] [1,1,0,0,0] (RR cY [1,1,0,0,0] (LA4 gC p) t (KK SS cY [1,1,0,0] [] (EE SS cY Q)))):=
 mh (ji s r n o m) k (λj i v u h q=>ai (step j i v u h q)) j q
noncomputable def abD:FD:=cF Tryz.f206 []
theorem Y0(x:Int)(h:ae)(Q:VH)(a:Q (.bool (((x:Int) !=x))) h):FW SS 206 [(.int .u64 x)] h Q:=cI abD Tryz.func206 (ai a)
noncomputable def abk:FD:=cF Tryz.f196 []
theorem Yj(x y:Int)(h:ae)(Q:VH)(g:FW SS 206 [(.int .u64 x)] h λe f=>yB e λd=>FW SS 206 [(.int .u64 y)] f λb c=>yB b λa=>au d (au a (Q (.int .i64 0) c) (Q (.int .i64 (-1)) c)) (au a (Q (.int .i64 1) c) (au (decide ((x:Int)<y)) (Q (.int .i64 (-1)) c) (au (decide ((x:Int)>y)) (Q (.int .i64 1) c) (Q (.int .i64 0) c))))):FW SS 196 [(.int .u64 x),(.int .u64 y)] h Q:=cI abk Tryz.func196 (ai g)
noncomputable def abC:FD:=cF Tryz.f165 []
theorem YZ(x:Int)(h:ae)(Q:VH)(a:Q (.bool (((x:Int) !=x))) h):FW SS 165 [(.int .i64 x)] h Q:=cI abC Tryz.func165 (ai a)
noncomputable def abj:FD:=cF Tryz.f195 []
theorem Yh(x y:Int)(h:ae)(Q:VH)(g:FW SS 165 [(.int .i64 x)] h λe f=>yB e λd=>FW SS 165 [(.int .i64 y)] f λb c=>yB b λa=>au d (au a (Q (.int .i64 0) c) (Q (.int .i64 (-1)) c)) (au a (Q (.int .i64 1) c) (au (decide ((x:Int)<y)) (Q (.int .i64 (-1)) c) (au (decide ((x:Int)>y)) (Q (.int .i64 1) c) (Q (.int .i64 0) c))))):FW SS 195 [(.int .i64 x),(.int .i64 y)] h Q:=cI abj Tryz.func195 (ai g)
noncomputable def iH:FD:=cF Tryz.f186 [([1,1,0,1,0,0],[0,1,18,19])]
abbrev iI(a:OA)(n c:Nat)(b:OA)(m d:Nat)(i:Nat):LV:=[(.slice a n c),(.slice b m d),(iA n),(iA i)]
theorem Fj(a:OA)(n c:Nat)(b:OA)(m d:Nat)(h:ae)(Q:VH)(e:au ((((n:Int):Int) !=(m:Int))) (FW SS 195 [(iA n),(iA m)] h λb c=>yI .i64 b λa=>Q (.int .i64 a) c) (LL SS iH [1,1,0,1,0,0] (iI a n c b m d 0) h (KK SS iH [1,1,0,1,0] [] (EE SS iH Q)))):FW SS 186 [(.slice a n c),(.slice b m d)] h Q:=cI iH Tryz.func186 (ai e)
theorem tk(a:OA)(n c:Nat)(b:OA)(m d:Nat)  (q:Nat->Nat->ae->Prop) (Q:VH) (step:∀(p:Nat)(i:Nat)(s:Nat->Value)(h:ae),q p i h->au (decide (((i:Int):Int)<(n:Int))) (xP (aD SS.P 177 (.slice a n c) (.int .i64 (wrap .i64 (wrap .i64 ((n:Int)-1)-(i:Int))))) λo=>xI .u64 (aj SS.P 150 (room h 18) (.pointer (some o))) λl=>xP (aD SS.P 177 (.slice b m d) (.int .i64 (wrap .i64 (wrap .i64 ((n:Int)-1)-(i:Int))))) λk=>xI .u64 (aj SS.P 150 (room h 18) (.pointer (some k))) λj=>FW SS 196 [(.int .u64 l),(.int .u64 j)] (room h 18) λf g=>yI .i64 f λe=>au (((e:Int) !=0)) (Q (.int .i64 e) g) (aJ (fs (iI a n c b m d) q) p [(.slice a n c),(.slice b m d),(iA n),(.int .i64 (wrap .i64 ((i:Int)+1)))] g)) (Q (.int .i64 0) h)) (p:Nat) {i:Nat} {h:ae} (r:q p i h):LL SS iH [1,1,0,1,0,0] (iI a n c b m d i) h (KK SS iH [1,1,0,1,0] [] (EE SS iH Q)):=
 dc (iI a n c b m d) q (λp i s h r=>ai (step p i s h r)) p r
noncomputable def RQ:FD:=cF Tryz.f213 []
theorem NA(x y z:Int)(p:OA)(h:ae)(Q:VH)(d:xI .u64 (aj SS.P 150 h (.pointer p)) λc=>xI .u64 (ay SS.P .rem 150 (.int .u64 (wrap .u64 (wrap .u64 (x*c)+z))) (.int .u64 1000000000)) λb=>xI .u64 (ay SS.P .quo 150 (.int .u64 (wrap .u64 (wrap .u64 (x*c)+z))) (.int .u64 1000000000)) λa=>Q (.tuple ⟨[(.int .u64 b),(.int .u64 a)]⟩) h):FW SS 213 [(.int .u64 x),(.int .u64 y),(.int .u64 z),(.pointer p)] h Q:=cI RQ Tryz.func213 (ai d)
noncomputable def iE:FD:=cF Tryz.f193 [([1,1,1,0,1,0,0],[0,1,2,7,8,18,19])]
abbrev eR(a:OA)(n c:Nat)(p:OA)(b:Int)(i:Nat)(cy:Int)(r:OA)(d e:Nat):LV:=[(.slice a n c),nA,(.func (.func 213) ⟨[]⟩ ⟨[(.pointer p)]⟩),(.slice r d e),(.int .u64 cy),(.int .i64 b),(iA i)]
theorem Fa(a:OA)(n c:Nat)(p:OA)(h:ae)(Q:VH)(d:xI .i64 (sf true [(iA n),(.int .i64 0)]) λb=>LL SS iE [1,1,1,0,1,0,0] [(.slice a n c),nA,(.func (.func 213) ⟨[]⟩ ⟨[(.pointer p)]⟩),nA,(.int .u64 0),(.int .i64 (wrap .i64 (b+1))),(.int .i64 0)] h (KK SS iE [1,1,1,0,1,0] [] (EE SS iE Q))):FW SS 193 [(.slice a n c),nA,(.func (.func 213) ⟨[]⟩ ⟨[(.pointer p)]⟩)] h Q:=cI iE Tryz.func193 (ai d)
theorem tj(a:OA)(n c:Nat)(p:OA)(v:Int)(w:Nat->Nat->Int->OA->Nat->Nat->ae->Prop)(Q:VH)(step:∀(z:Nat) (i:Nat) (cy:Int) (r:OA) (x y:Nat) (B:Nat->Value) (h:ae),w z i cy r x y h->au (decide (((i:Int):Int)<v)) (au (decide (((i:Int):Int)<(n:Int))) (iP 177 (.slice a n c) (iA i) λu=>xI .u64 (aj SS.P 150 h (.pointer (some u))) λt=>au (decide (((i:Int):Int)<0)) (iP 177 nA (iA i) λs=>xI .u64 (aj SS.P 150 h (.pointer (some s))) λq=>FW SS 213 [(.int .u64 t),(.int .u64 q),(.int .u64 cy),(.pointer p)] h λm o=>∃l:Int,∃k:Int,m=(.tuple ⟨[(.int .u64 l),(.int .u64 k)]⟩)/\xR (aI SS.P 177 1 [(0,(.int .u64 l))]) o λ_ g h j=>xE (bH SS.P 177 177 (.slice r x y) (sA (o.next) g h) j) j λb d e _ f=>aJ (Ct (eR a n c p v) w) z [(.slice a n c),nA,(.func (.func 213) ⟨[]⟩ ⟨[(.pointer p)]⟩),(.slice b d e),(.int .u64 k),(.int .i64 v),(.int .i64 (wrap .i64 ((i:Int)+1)))] f) (FW SS 213 [(.int .u64 t),(.int .u64 0),(.int .u64 cy),(.pointer p)] h λm o=>∃l:Int,∃k:Int,m=(.tuple ⟨[(.int .u64 l),(.int .u64 k)]⟩)/\xR (aI SS.P 177 1 [(0,(.int .u64 l))]) o λ_ g h j=>xE (bH SS.P 177 177 (.slice r x y) (sA (o.next) g h) j) j λb d e _ f=>aJ (Ct (eR a n c p v) w) z [(.slice a n c),nA,(.func (.func 213) ⟨[]⟩ ⟨[(.pointer p)]⟩),(.slice b d e),(.int .u64 k),(.int .i64 v),(.int .i64 (wrap .i64 ((i:Int)+1)))] f)) (au (decide (((i:Int):Int)<0)) (iP 177 nA (iA i) λs=>xI .u64 (aj SS.P 150 h (.pointer (some s))) λq=>FW SS 213 [(.int .u64 0),(.int .u64 q),(.int .u64 cy),(.pointer p)] h λm o=>∃l:Int,∃k:Int,m=(.tuple ⟨[(.int .u64 l),(.int .u64 k)]⟩)/\xR (aI SS.P 177 1 [(0,(.int .u64 l))]) o λ_ g h j=>xE (bH SS.P 177 177 (.slice r x y) (sA (o.next) g h) j) j λb d e _ f=>aJ (Ct (eR a n c p v) w) z [(.slice a n c),nA,(.func (.func 213) ⟨[]⟩ ⟨[(.pointer p)]⟩),(.slice b d e),(.int .u64 k),(.int .i64 v),(.int .i64 (wrap .i64 ((i:Int)+1)))] f) (FW SS 213 [(.int .u64 0),(.int .u64 0),(.int .u64 cy),(.pointer p)] h λm o=>∃l:Int,∃k:Int,m=(.tuple ⟨[(.int .u64 l),(.int .u64 k)]⟩)/\xR (aI SS.P 177 1 [(0,(.int .u64 l))]) o λ_ g h j=>xE (bH SS.P 177 177 (.slice r x y) (sA (o.next) g h) j) j λb d e _ f=>aJ (Ct (eR a n c p v) w) z [(.slice a n c),nA,(.func (.func 213) ⟨[]⟩ ⟨[(.pointer p)]⟩),(.slice b d e),(.int .u64 k),(.int .i64 v),(.int .i64 (wrap .i64 ((i:Int)+1)))] f))) (FW SS 174 [(.slice r x y)] h λd e=>yL d λa b c=>Q (.slice a b c) e))(z:Nat){i:Nat}{cy:Int}{r:OA}{x y:Nat}{h:ae}(A:w z i cy r x y h):LL SS iE [1,1,1,0,1,0,0] (eR a n c p v i cy r x y) h (KK SS iE [1,1,1,0,1,0] [] (EE SS iE Q)):=
 GF (eR a n c p v) w (λz i cy r x y B h A=>ai (step z i cy r x y B h A)) z A
noncomputable def Kv:FD:=cF Tryz.f202 []
theorem HZ(a:OA)(n c:Nat)(k:Int)(h:ae)(Q:VH)(g:xN (eL SS.P 150 (.int .u64 k)) h λ_ f=>FW SS 193 [(.slice a n c),nA,(.func (.func 213) ⟨[]⟩ ⟨[(pA (h.next))]⟩)] f λd e=>yL d λa b c=>Q (.slice a b c) e):FW SS 202 [(.slice a n c),(.int .u64 k)] h Q:=cI Kv Tryz.func202 (ai g)
def uv(d:Nat):Value:= .int .u64 (d:Int)
theorem Bs:SS.P.underlying 177=some (.slice 150):=by kernel_rfl
theorem Pa:SS.P.underlying 150=some (.int .u64):=by kernel_rfl
theorem EM:aG SS.P 150=some 1:=by kernel_rfl
theorem Og:Go.Ab.isAgg SS.P 150=false:=by kernel_rfl
noncomputable def Vv:TypeInfo:=(eW SS.P 150).getD default
theorem KQ:eW SS.P 150=some Vv:=by kernel_rfl
theorem D0:Vv.size=1:=by kernel_rfl
theorem Bk:Vv.bytes=8:=by kernel_rfl
theorem td(z:Int):aI SS.P 177 1 [(0,.int .u64 z)]=some (.cells [.int .u64 z] 150 1 true,mR 1 1):=by kernel_rfl
theorem mj(d:Wf g)(e:Ok g h){v:Value}{a:List Value}(o:eo g h 150 v a)(z:Int)(f:a.length<=100000):
  ∃(b:Option Addr)(n c:Nat)(u:dP),bH SS.P 177 177 v (.slice (some ⟨h.next,0,none⟩) 1 1) (h.push (.cells [.int .u64 z] 150 1 true))=some (.slice b n c,u)/\n=a.length+1/\eo g (u.app (h.push (.cells [.int .u64 z] 150 1 true))) 150 (.slice b n c) (a++[.int .u64 z])/\Ok g (u.app (h.push (.cells [.int .u64 z] 150 1 true))):=
 eo.snoc Bs KQ D0 d e o rfl (by rw[Bk];omega) (by omega)
theorem UG(l:List Nat)(i:Nat)(h:i<l.length):(l.map uv).getD i undef = .int .u64 (l.getD i 0:Nat):=by
 simp[gD,List.getElem?_map,gE h,uv]
theorem FV(r:Rd h 150 v (x.map uv)){i:Int}(d:0<=i)(b:i<x.length):
  ∃p:Addr,aD SS.P 177 v (.int .i64 i)=some (.pointer (some p))/\aj SS.P 150 h (.pointer (some p))=some (.int .u64 (x.getD i.toNat 0:Nat)):=by
 obtain⟨p,c,a⟩:=r.at_ Bs EM Pa Og (k:= .i64) d (by rw[lM];exact b);rw[UG x _ (by omega)]at a;exact⟨p,c,a⟩
theorem sh{c:Nat}(o:eo g h 150 (.slice a n c) (x.map uv))(D:x.length<=100000):
  FW SS 174 [.slice a n c] h (λv u=>∃k f e,v = .slice k f e/\eo g h 150 (.slice k f e) ((dS x).map uv)/\u=h):=by
 have A:n=x.length:=by have:=o.len;rwa[lM]at this
 have L:=pq a n c (λb r m d J=>m<=x.length/\b=m/\eo g h 150 (.slice r m d) ((x.take m).map uv)/\dS x=dS (x.take m)/\J=h) (λv u=>∃k f e,v = .slice k f e/\eo g h 150 (.slice k f e) ((dS x).map uv)/\u=h) (by
  intro b r m d;intros;rename_i J I;obtain⟨K,rfl,t,w,rfl⟩:=I;have H:wrap .i64 ((b:Int)-1)=(b:Int)-1:=aB (by omega) (by omega);rw[H];have s:b≠0->x.take b=x.take (b-1)++[x.getD (b-1) 0]:=λs=>by
   obtain⟨j,rfl⟩:∃j,b=j+1:=⟨b-1,by omega⟩
   rw[List.take_succ_eq_append_getElem (by omega),Nat.add_sub_cancel,gD,gE (by omega)];rfl
  refine aa (λq=>?_) (λq=>?_)
  ·have q:=dT q;obtain⟨p,F,C⟩:=FV t.rd (i:=(b:Int)-1) (by omega) (by rw[length_take];omega);have E:(x.take b).getD ((b:Int)-1).toNat 0=x.getD (b-1) 0:=by
    rw[show((b:Int)-1).toNat=b-1 by omega,gD,List.getElem?_take,if_pos (by omega),gD]
   rw[E]at C;refine⟨p,F,_,C,aa (λl=>?_) (λl=>?_)⟩
   ·have l:((x.getD (b-1) 0:Nat):Int)=0:=by simpa using l
    have l:x.getD (b-1) 0=0:=by omega
    obtain⟨k,f,e,G,y⟩:=t.upto Bs EM (z:=b-1) (by rw[lM,length_take];omega) (by rw[lM,length_take];omega);rw[show((b:Int)-1)=((b-1:Nat):Int) by omega];have B:f=b-1:=by have:=y.len;rw[length_take,lM,length_take]at this;omega
    subst B;refine⟨k,_,e,G,Kb (b-1) (by omega) ⟨by omega,rfl,?_,?_,rfl⟩⟩
    ·rw[<-List.map_take,List.take_take,Nat.min_eq_left (by omega)]at y;exact y
    ·rw[w,s (by omega),l,jh]
   ·have l:¬((x.getD (b-1) 0:Nat):Int)=0:=by simpa using l
    refine⟨r,b,d,rfl,?_,rfl⟩;rw[w,s (by omega),jW _ (by omega),<-s (by omega)];exact t
  ·have q:=dF q;obtain rfl:b=0:=by omega
   refine⟨r,0,d,rfl,?_,rfl⟩;rw[w];exact t)
 exact DJ a n c h _ (L n ⟨by omega,rfl,by rw[show x.take n=x by rw[A,List.take_length]];exact o,by rw[show x.take n=x by rw[A,List.take_length]],rfl⟩)
theorem Fx{l:List UInt8}(h:i<l.length):Num.val (l.take (i+1))=10*Num.val (l.take i)+jx (l.getD i 0):=tc (MF h)
theorem RY(l:List UInt8){h:ae}{b:Nat}(c:b<=l.length):bF SS.P 9 (strOf l) none (some (.int .i64 (b:Int))) none h=some (strOf (l.take b)):=oH (a:=0) ZN l rfl rfl (by omega) c
theorem JG(b:n=s.length-9)(a:0<s.length):Num.val s=Num.val (s.drop n)+10^(s.length-n)*Num.val (s.take n):=by
 have:=jX (s.take n) (s.drop n);rw[List.take_append_drop,length_drop,Nat.mul_comm]at this;omega
theorem sg(l:List UInt8)(hd:l.all bR=true)(k:l.length<=10000)(h:ae)(w:Wf h):FW SS 172 [strOf l] h (je h 150 ((aX 1000000000 (Num.val l)).map uv)):=by
 have Y:=tX l (λA s r o t g=>A=s.length/\s.all bR=true/\s.length<=10000/\Ok h g/\∃a:List Nat,(∀d∈a,d<1000000000)/\a.length+s.length<=10000/\eo h g 150 (.slice r o t) (a.map uv)/\Num.val l=Num.bv 1000000000 a+1000000000^a.length*Num.val s) (je h 150 ((aX 1000000000 (Num.val l)).map uv)) (by
  intro A s r o t;intros;rename_i g X;obtain⟨rfl,p,x2,Q,a,C,x0,O,I⟩:=X;refine aa (λz=>?_) (λz=>?_)
  ·have z:=dT z;have U:wrap .i64 ((s.length:Int)-9)=(s.length:Int)-9:=aB (by omega) (by omega);rw[U];have E:(if(s.length:Int)-9>0 then(s.length:Int)-9 else 0)=((s.length-9:Nat):Int):=by split<;>omega
   refine⟨_,tW _ _ _,?_⟩;rw[E];have T:=tY l (λA s r o t g=>A=s.length/\s.all bR=true/\s.length<=10000/\Ok h g/\∃a:List Nat,(∀d∈a,d<1000000000)/\a.length+s.length<=10000/\eo h g 150 (.slice r o t) (a.map uv)/\Num.val l=Num.bv 1000000000 a+1000000000^a.length*Num.val s) s.length s r o t ((s.length-9:Nat):Int)
    (λq i v B=>∃j:Nat,i=(s.length-9:Nat)+(j:Int)/\s.length-9+j<=s.length/\q=s.length-(s.length-9+j)/\v=(Num.val ((s.drop (s.length-9)).take j):Nat)/\B=g) (je h 150 ((aX 1000000000 (Num.val l)).map uv)) (by
    intro q i v;intros;rename_i B P;obtain⟨j,rfl,hj,x3,rfl,rfl⟩:=P;have D:(s.drop (s.length-9)).all bR=true:=by
     rw[all_eq_true]at p⊢;exact λx c=>p x (List.mem_of_mem_drop c)
    have F:=CS (l:=(s.drop (s.length-9)).take j) (by
     rw[all_eq_true]at D⊢;exact λx c=>D x (List.mem_of_mem_take c))
    have f:Num.val ((s.drop (s.length-9)).take j)<1000000000:=by
     refine Nat.lt_of_lt_of_le F (Nat.le_trans (Nat.pow_le_pow_right (by omega) (show _<=9 by rw[length_take,length_drop];omega)) (by decide))
    refine aa (λe=>?_) (λe=>?_)
    ·have e:=dT e;have H:s.length-9+j<s.length:=by omega
     have y:=CW p H;have x4:=lD.1 y;have x1:=rr y;refine⟨_,BJ (h:=B) s (by omega) e,?_⟩;have G:(((s.length-9:Nat):Int)+(j:Int)).toNat=s.length-9+j:=by omega
     rw[G];have R:wrap .u8 ((((s.getD (s.length-9+j) 0).toNat:Nat):Int)-48)=(jx (s.getD (s.length-9+j) 0):Nat):=by
      rw[sY (by omega) (by omega)];unfold jx;omega
     have e2:(s.drop (s.length-9)).getD j 0=s.getD (s.length-9+j) 0:=by
      rw[gD,List.getElem?_drop,gD]
     have N:=Fx (l:=s.drop (s.length-9)) (i:=j) (by rw[length_drop];omega);rw[e2]at N;dsimp only;rw[R,gV (n:=((jx (s.getD (s.length-9+j) 0):Nat):Int)) (by omega) (by omega),gV (n:=10*((Num.val ((s.drop (s.length-9)).take j):Nat):Int)) (by omega) (by omega),gV (by omega) (by omega),aB (n:=((s.length-9:Nat):Int)+(j:Int)+1) (by omega) (by omega)];exact gY (q-1) (by omega) ⟨j+1,by omega,by omega,by omega,by rw[N];omega,rfl⟩
    ·have e:=dF e;have K:(s.drop (s.length-9)).take j=s.drop (s.length-9):=take_of_length_le (by rw[length_drop];omega);rw[K]at f⊢;refine⟨_,_,_,td _,?_⟩;obtain⟨b,m,d,u,V,g7,S,g9⟩:=mj w Q O ((Num.val (s.drop (s.length-9)):Nat):Int) (by rw[lM];omega);refine⟨b,m,d,u,V,?_⟩;refine⟨_,RY s (show s.length-9<=s.length by omega),?_⟩;refine Ub (s.take (s.length-9)).length (by rw[length_take];omega) ⟨rfl,?_,by rw[length_take];omega,g9,a++[Num.val (s.drop (s.length-9))],?_,?_,?_,?_⟩
     ·rw[all_eq_true]at p⊢;exact λx c=>p x (List.mem_of_mem_take c)
     ·intro x c;rcases mem_append.1 c with c|c
      ·exact C x c
      ·rw[mem_singleton.1 c];exact f
     ·rw[List.length_append,length_take];simp;omega
     ·rw[map_append];exact S
     ·rw[qL,List.length_append,I,JG (s:=s) rfl (by omega),List.length_singleton];rcases lt_or_ge s.length 10 with W|W
      ·rw[show s.length-9=0 by omega,take_zero,jY];simp
      ·rw[show s.length-(s.length-9)=9 by omega,show(10:Nat)^9=1000000000 from rfl,Nat.pow_succ,Nat.mul_add,Nat.mul_assoc];omega)
   exact T _ ⟨0,by omega,by omega,rfl,by simp[jY],rfl⟩
  ·have z:=dF z;obtain rfl:s=[]:=List.eq_nil_of_length_eq_zero (by omega);refine(sh O (by omega)).mono ?_;rintro _ B ⟨M,L,J,rfl,Z,rfl⟩;refine⟨M,L,J,rfl,M,L,J,rfl,?_,Q⟩;rw[I,jY,Nat.mul_zero,Nat.add_zero,<-lf (by omega) C];exact Z)
 exact HW l h _ (Y l.length ⟨rfl,hd,k,Ok.refl w,[],by simp,by simpa using k,.inl ⟨rfl,rfl⟩,by simp[Num.bv]⟩)
variable{j:Nat}{P:Program}
theorem OJ(x:Int)(h:ae):FW SS 206 [.int .u64 x] h (λv a=>v = .bool false/\a=h):=Y0 x h _ ⟨by simp,rfl⟩
theorem OI(x:Int)(h:ae):FW SS 165 [.int .i64 x] h (λv a=>v = .bool false/\a=h):=YZ x h _ ⟨by simp,rfl⟩
theorem Yk(m n:Nat)(h:ae):FW SS 196 [.int .u64 (m:Int),.int .u64 (n:Int)] h (λv c=>v = .int .i64 (eJ m n)/\c=h):=by
 refine Yj _ _ h _ ((OJ _ h).mono ?_);rintro _ _ ⟨rfl,rfl⟩;refine⟨_,rfl,(OJ _ _).mono ?_⟩;rintro _ _ ⟨rfl,rfl⟩;refine⟨_,rfl,aa (λe=>by cases e) (λ_=>aa (λe=>by cases e) (λ_=>aa (λa=>?_) (λa=>aa (λb=>?_) (λb=>?_))))⟩
 ·exact⟨by rw[lC (by have:=dT a;omega)],rfl⟩
 ·exact⟨by rw[lz (by have:=dT b;omega)],rfl⟩
 ·have a:=dF a;have b:=dF b;exact⟨by rw[show m=n by omega,qM],rfl⟩
theorem Yi(m n:Nat)(h:ae):FW SS 195 [.int .i64 (m:Int),.int .i64 (n:Int)] h (λv c=>v = .int .i64 (eJ m n)/\c=h):=by
 refine Yh _ _ h _ ((OI _ h).mono ?_);rintro _ _ ⟨rfl,rfl⟩;refine⟨_,rfl,(OI _ _).mono ?_⟩;rintro _ _ ⟨rfl,rfl⟩;refine⟨_,rfl,aa (λe=>by cases e) (λ_=>aa (λe=>by cases e) (λ_=>aa (λa=>?_) (λa=>aa (λb=>?_) (λb=>?_))))⟩
 ·exact⟨by rw[lC (by have:=dT a;omega)],rfl⟩
 ·exact⟨by rw[lz (by have:=dT b;omega)],rfl⟩
 ·have a:=dF a;have b:=dF b;exact⟨by rw[show m=n by omega,qM],rfl⟩
abbrev BB:Nat:=1000000000
abbrev bl(n:Nat):List Value:=(aX BB n).map uv
theorem gQ:1<BB:=by decide
theorem qC{b:Option Addr}{c:Nat}{x:Nat}(E:Rd h 150 (.slice a n c) (bl x))(D:Rd h 150 (.slice b m k) (bl j))(I:(aX BB x).length<=10000)(w:Wf h):
  FW SS 186 [.slice a n c,.slice b m k] h (λv u=>v = .int .i64 (eJ x j)/\Ok h u):=by
 have O:n=(aX BB x).length:=by have:=E.len;rwa[lM]at this
 have P:m=(aX BB j).length:=by have:=D.len;rwa[lM]at this
 have L:=λ(C:(aX BB x).length=(aX BB j).length)=>tk a n c b m k (λs i g=>i<=n/\s=n-i/\(aX BB x).drop (n-i)=(aX BB j).drop (n-i)/\Ok h g) (λv u=>v = .int .i64 (eJ x j)/\Ok h u) (by
  intro s i;intros;rename_i g M;obtain⟨f,o,t,G⟩:=M;have B:wrap .i64 ((n:Int)-1)=(n:Int)-1:=aB (by omega) (by omega);have z:wrap .i64 ((n:Int)-1-(i:Int))=(n:Int)-1-(i:Int):=aB (by omega) (by omega);have A:wrap .i64 ((i:Int)+1)=((i+1:Nat):Int):=by rw[aB (by omega) (by omega)];omega
  rw[B,z,A];have l:=G.room 18;refine aa (λr=>?_) (λr=>?_)
  ·have r:=dT r;have N:((n:Int)-1-(i:Int)).toNat=n-1-i:=by omega
   obtain⟨p,J,H⟩:=FV (E.ok l) (i:=(n:Int)-1-(i:Int)) (by omega) (by omega);obtain⟨q,K,F⟩:=FV (D.ok l) (i:=(n:Int)-1-(i:Int)) (by omega) (by omega);rw[N]at H F;refine⟨p,J,_,H,q,K,_,F,(Yk _ _ _).mono ?_⟩;rintro _ _ ⟨rfl,rfl⟩;have y:(aX BB x).drop (n-1-i+1)=(aX BB j).drop (n-1-i+1):=by rw[show n-1-i+1=n-i by omega];exact t
   refine⟨_,rfl,aa (λd=>?_) (λd=>?_)⟩
   ·refine⟨?_,l⟩;have d:eJ ((aX BB x).getD (n-1-i) 0) ((aX BB j).getD (n-1-i) 0)≠0:=by simpa using d
    rcases Nat.lt_trichotomy ((aX BB x).getD (n-1-i) 0) ((aX BB j).getD (n-1-i) 0)with e|e|e
    ·have:=tr gQ (dp gQ x) C (by omega) y e;rw[cm gQ,cm gQ]at this;rw[lC e,lC this]
    ·rw[e,qM]at d;exact absurd rfl d
    ·have:=tr gQ (dp gQ j) C.symm (by omega) y.symm e;rw[cm gQ,cm gQ]at this;rw[lz e,lz this]
   ·have d:eJ ((aX BB x).getD (n-1-i) 0) ((aX BB j).getD (n-1-i) 0)=0:=by simpa using d
    have e:(aX BB x).getD (n-1-i) 0=(aX BB j).getD (n-1-i) 0:=by
     unfold eJ at d;split at d
     ·cases d
     ·split at d
      ·assumption
      ·cases d
    refine bZ (s-1) (by omega) ⟨by omega,by omega,?_,l⟩;rw[show n-(i+1)=n-1-i by omega,drop_eq_getElem_cons (show n-1-i<(aX BB x).length by omega),drop_eq_getElem_cons (show n-1-i<(aX BB j).length by omega),y];congr 1;rw[gD,gE (by omega),gD,gE (by omega)]at e;exact e
  ·have r:=dF r;rw[show n-i=0 by omega,drop_zero,drop_zero]at t;have:x=j:=by rw[<-cm gQ x,t,cm gQ]
   exact⟨by rw[this,qM],G⟩)
 refine Fj a n c b m k h _ (aa (λf=>(Yi _ _ h).mono ?_) (λf=>?_))
 ·rintro _ _ ⟨rfl,rfl⟩;have f:=MX f;refine⟨_,rfl,?_,Ok.refl w⟩;rcases Nat.lt_trichotomy n m with o|o|o
  ·rw[lC o,lC (lU gQ (by omega))]
  ·exact absurd o f
  ·rw[lz o,lz (lU gQ (by omega))]
 ·have f:=Mw f;refine L (by omega) n (i:=0) ⟨by omega,by omega,?_,Ok.refl w⟩;rw[sub_zero,List.drop_of_length_le (by omega),List.drop_of_length_le (by omega)]
theorem Kj{t:TypeId}{p:Value}(o:Ok h g)(a:aj P t h p=some v):aj P t g p=some v:=by
 unfold aj at a⊢;split at a
 ·next c=>
  split at a
  ·next cs _ _ _ b=>rw[o.ext _ _ b];exact a
  ·cases a
 ·cases a
theorem NB{p:Option Addr}(g:aj SS.P 150 h (.pointer p)=some (.int .u64 (k:Int)))(x y z:Nat)(c:x<BB)(e:k<=BB)(l:z<BB):
  FW SS 213 [.int .u64 (x:Int),.int .u64 (y:Int),.int .u64 (z:Int),.pointer p] h (λv d=>v = .tuple ⟨[uv (cW BB k x y z).1,uv (cW BB k x y z).2]⟩/\d=h):=by
 have i:BB=1000000000:=rfl;have j:x*k<=1000000000000000000:=Nat.le_trans (Nat.mul_le_mul (Nat.le_of_lt c) e) (by decide);have a:wrap .u64 ((x:Int)*(k:Int))=((x*k:Nat):Int):=by rw[<-Int.natCast_mul];exact gV (by omega) (by omega)
 have f:wrap .u64 (((x*k:Nat):Int)+(z:Int))=((x*k+z:Nat):Int):=by rw[<-Int.natCast_add];exact gV (by omega) (by omega)
 refine NA _ _ _ p h _ ⟨_,g,?_⟩;dsimp only;rw[a,f];refine⟨_,gU (b:=BB) (by omega) (by decide),_,qb (b:=BB) (by omega) (by omega) (by decide),?_,rfl⟩;unfold uv cW;rw[Int.natCast_emod,Int.natCast_ediv]
theorem Fb{c:Nat}{p:Option Addr}(S:Rd h 150 (.slice a n c) (x.map uv))(C:∀d∈x,d<BB)(x0:x.length<=10000)(hp:aj SS.P 150 h (.pointer p)=some (.int .u64 (k:Int)))(A:0<k)(E:k<=BB)(w:Wf h):
  FW SS 193 [.slice a n c,.slice none 0 0,.func (.func 213) ⟨[]⟩ ⟨[.pointer p]⟩] h (je h 150 (bl (Num.bv BB x*k))):=by
 have hn:n=x.length:=by have:=S.len;rwa[lM]at this
 have Z:BB=1000000000:=rfl;have hF:∀p q c,c<=BB-1->p<BB->(cW BB k p q c).2<=BB-1:=λp q c hc hp=>by
  unfold cW;dsimp only;have h1:p*k<=999999999*1000000000:=Nat.mul_le_mul (by omega) E;have:(p*k+c)/BB<BB:=Nat.div_lt_of_lt_mul (by rw[Z];omega);omega
 have T:∀j,eO (cW BB k) x [] 0 0 j<=BB-1:=by
  intro j
  induction j with
  |zero=>exact Nat.zero_le _
  |succ j ih=>exact hF _ _ _ ih (ba (by decide) C _)
 have W:dS (bj (cW BB k) x [] 0 (n+1) 0)=aX BB (Num.bv BB x*k):=by
  rw[lf gQ (jy (λp q c=>mod_lt _ (by decide)) x [] (n+1) 0 0),L6 gQ E A C (n+1) 0 0 (by omega) A (by omega)];rw[drop_zero,Nat.add_zero]
 have L:=tj a n c p ((n:Int)+1) (λz i cy r N P g=>i<=n+1/\z=n+1-i/\cy=(eO (cW BB k) x [] 0 0 i:Nat)/\eo h g 150 (.slice r N P) ((bj (cW BB k) x [] 0 i 0).map uv)/\Ok h g) (je h 150 (bl (Num.bv BB x*k))) (by
  intro z i cy r N P;intros;rename_i g hi;obtain⟨h1,h2,rfl,F,v⟩:=hi;have K:wrap .i64 ((i:Int)+1)=((i+1:Nat):Int):=by rw[aB (by omega) (by omega)];omega
  rw[K];have l:(bj (cW BB k) x [] 0 i 0).length=i:=fb _ _ _ _ _ _;have f:=im (cW BB k) x [] i 0 0;rw[Nat.zero_add]at f;have o:eO (cW BB k) x [] 0 0 (i+1)=(cW BB k (x.getD i 0) (([]:List Nat).getD i 0) (eO (cW BB k) x [] 0 0 i)).2:=by
   show(cW BB k (x.getD (0+i) 0) (([]:List Nat).getD (0+i) 0) _).2=_;rw[Nat.zero_add]
  have x1:=T i;have X:=ba (b:=BB) (by decide) C i;have O:=Kj v hp;have U:=NB O (x.getD i 0) (([]:List Nat).getD i 0) (eO (cW BB k) x [] 0 0 i) X E (by omega);have M:([]:List Nat).getD i 0=0:=by simp
  refine aa (λy=>?_) (λy=>?_)
  ·have y:=dT y;refine aa (λt=>?_) (λt=>?_)
   ·have t:=dT t;obtain⟨q,J,g3⟩:=FV (S.ok v) (i:=(i:Int)) (by omega) (by omega);rw[Int.toNat_natCast]at g3;refine⟨q,J,_,g3,aa (λs=>?_) (λs=>?_)⟩
    ·have:=dT s;omega
    ·refine(show FW SS 213 [.int .u64 ((x.getD i 0:Nat):Int),.int .u64 ((([]:List Nat).getD i 0:Nat):Int),.int .u64 ((eO (cW BB k) x [] 0 0 i:Nat):Int),.pointer p] g _ from U).mono ?_ |> (λe=>by rw[M]at e;exact e)
     rintro _ _ ⟨rfl,rfl⟩;refine⟨_,_,rfl,_,_,_,td _,?_⟩;obtain⟨b,m,d,u,D,g7,B,G⟩:=mj w v F ((cW BB k (x.getD i 0) (([]:List Nat).getD i 0) (eO (cW BB k) x [] 0 0 i)).1:Nat) (by rw[lM,l];omega);refine⟨b,m,d,u,D,pf (z-1) (by omega) ⟨by omega,by omega,by rw[o],?_,G⟩⟩;rw[f,map_append];exact B
   ·have t:=dF t;have V:x.getD i 0=0:=by rw[gD,List.getElem?_eq_none (by omega)];rfl
    refine aa (λs=>?_) (λs=>?_)
    ·have:=dT s;omega
    ·refine(show FW SS 213 [.int .u64 ((x.getD i 0:Nat):Int),.int .u64 ((([]:List Nat).getD i 0:Nat):Int),.int .u64 ((eO (cW BB k) x [] 0 0 i:Nat):Int),.pointer p] g _ from U).mono ?_ |> (λe=>by rw[M,V]at e;exact e)
     rintro _ _ ⟨rfl,rfl⟩;refine⟨_,_,rfl,_,_,_,td _,?_⟩;obtain⟨b,m,d,u,D,g7,B,G⟩:=mj w v F ((cW BB k (x.getD i 0) (([]:List Nat).getD i 0) (eO (cW BB k) x [] 0 0 i)).1:Nat) (by rw[lM,l];omega);refine⟨b,m,d,u,D,pf (z-1) (by omega) ⟨by omega,by omega,by rw[o],?_,G⟩⟩;rw[f,map_append];exact B
  ·have y:=dF y;obtain rfl:i=n+1:=by omega
   refine(sh F (by rw[l];omega)).mono ?_;rintro _ J ⟨R,Q,I,rfl,Y,rfl⟩;rw[W]at Y;exact⟨R,Q,I,rfl,R,Q,I,rfl,Y,v⟩)
 refine Fa a n c p h _ ⟨_,tW _ _ _,?_⟩;have H:(if(0:Int)>(n:Int)then(0:Int)else(n:Int))=(n:Int):=if_neg (by omega);have hw:wrap .i64 ((n:Int)+1)=(n:Int)+1:=aB (by omega) (by omega);dsimp only;rw[H,hw];exact L (n+1) (i:=0) ⟨by omega,by omega,rfl,.inl ⟨rfl,rfl⟩,Ok.refl w⟩
end Go.Proofs.YtaaichlgdgjgjaaGreatDoor
end
