/- Laws and walks that the proof leans on (part 3): NumWeight; NumGraph; NumRatV; NumStar; NumSemi; NumSem and others. No condition. -/
import Derived.Test.YtaaichlgdgjgjaaGreatDoorPart2
import Derived.Test.YtaaichlgdgjgjaaGreatDoorProg
set_option linter.unusedVariables false
set_option linter.unusedSimpArgs false
set_option maxRecDepth 100000
open List (all_eq_true append_assoc drop_eq_getElem_cons drop_zero getElem?_map getElem_mem length_drop length_replicate length_set length_take map_append map_set mem_append mem_singleton take_of_length_le take_zero)
open Nat (lt_irrefl lt_or_ge mod_lt mul_pos ne_of_gt sub_zero)
open Option (getD_some)
open Go.IntKind (wrap)
section
namespace Go.Num
theorem Im:ax [105,110,102]=false:=by rfl
theorem vo:ax [45,105,110,102]=false:=by rfl
theorem ef:ax [48]=true:=by decide
theorem Ec{a:List UInt8}(h:ax a=true):cz a [48]=0↔a=[48]:=by
 constructor
 ·intro e;unfold cz at e;rw[if_pos ⟨h,ef⟩]at e;have r:=aP.1 h;have f:val (ak [48])=1:=by decide
  have i:val (numOf [48])=0:=by decide
  rw[f,i,Nat.mul_one,Nat.zero_mul,show isNeg [48]=false from rfl,Bool.not_false]at e;have d:val (numOf a)=0:=by
   unfold de at e;by_cases b:isNeg a=true
   ·rw[if_pos b]at e;dsimp only at e;rw[Nat.add_zero]at e;by_cases c:val (numOf a)=0
    ·exact c
    ·rw[if_neg c,if_pos b]at e;exact absurd e (by decide)
   ·rw[if_neg b,if_neg (Nat.not_lt_zero _)]at e;dsimp only at e;rw[sub_zero]at e;by_cases c:val (numOf a)=0
    ·exact c
    ·rw[if_neg c,if_neg b]at e;exact absurd e (by decide)
  have b:=(ig r.num).2 d;have k:isNeg a=false:=by
   cases g:isNeg a with
   |false=>rfl
   |true=>exact absurd ⟨g,b⟩ r.neg
  have j:ak a=[49]:=by
   refine(ti r.den).2 ?_;have:=r.one;rw[d,Nat.gcd_zero_left]at this;exact this
  have l:bo a=false:=by
   cases g:bo a with
   |false=>rfl
   |true=>exact absurd ⟨g,.inr j⟩ r.fr
  grind[take_of_length_le,bj,numOf,bo]
 ·rintro rfl;decide
def ba(b:Int)(a:List UInt8):Bool:=decide (1<=b/\b<=3)&&ax a&&(b==1||decide (0<cz a [48]))
variable{n:Nat}{m:Nat}
def eW(s:Bool)(n:Nat):Int:=if s=true then -(n:Int)else n
def bg(a:List UInt8):Rat:=mkRat (eW (isNeg a) (val (numOf a))) (val (ak a))
def cN(s:Bool)(n d:Nat):List UInt8:=(if s=true/\n≠0 then[45]else[])++(ag n++(if d=1 then[]else 47::ag d))
theorem GF(n:Nat):∃c r,ag n=c::r/\bR c=true:=by
 have h:=cY n
 cases e:ag n with
 |nil=>grind[q8]
 |cons c r=>grind
theorem B9{c:UInt8}(r:List UInt8):∀{l:List UInt8},(∀x∈l,x≠c)->cJ c (l++r)=l.length+cJ c r
 |[],_=>by simp
 |x::l,h=>by
  show(if x=c then 0 else cJ c (l++r)+1)=_;rw[if_neg (h x (List.mem_cons_self ..)),B9 r λy a=>h y (List.mem_cons_of_mem _ a),List.length_cons];omega
theorem RD{c:UInt8}(b:bR c=false):∀x∈ag n,x≠c:=λx a e=>by grind[cY]
structure BX(a:List UInt8)(s:Bool)(n d:Nat):Prop where
 neg:isNeg a=s
 num:numOf a=ag n
 den:ak a=ag d
 str:bo a=decide (d≠1)
theorem Ic(s:Bool)(n d:Nat):isNeg (cN s n d)=decide (s=true/\n≠0)/\bj (cN s n d)=ag n++(if d=1 then[]else 47::ag d):=by
 have b:isNeg (cN s n d)=decide (s=true/\n≠0):=by
  unfold cN isNeg;by_cases c:s=true/\n≠0
  ·rw[if_pos c,decide_eq_true c];rfl
  ·rw[if_neg c,decide_eq_false c];obtain⟨x,r,e,a⟩:=GF n;rw[e];show(some x==some 45)=false;have:x≠45:=λe=>by rw[e]at a;exact absurd a (by decide)
   simpa using this
 refine⟨b,?_⟩;unfold bj;rw[b];unfold cN
 grind
theorem wW(s:Bool)(n d:Nat):BX (cN s n d) (decide (s=true/\n≠0)) n d:=by
 obtain⟨b,e⟩:=Ic s n d;have f:cJ 47 (ag n++(if d=1 then[]else 47::ag d))=(ag n).length:=by
  rw[B9 _ (RD (by decide))];split
  ·rfl
  ·rfl
 have a:bo (cN s n d)=decide (d≠1):=by
  unfold bo;rw[e,f];by_cases c:d=1
  ·grind
  ·grind
 refine⟨b,?_,?_,a⟩
 ·simp_all[numOf]
 ·unfold ak;rw[a];by_cases c:d=1
  all_goals simp_all[AE]
theorem qY(s:Bool):eW s 0=0:=by grind[eW]
theorem Ox(s:Bool)(n:Nat):eW (decide (s=true/\n≠0)) n=eW s n:=by
 by_cases c:n=0
 ·subst c;rw[qY,qY]
 simp_all
theorem ui(s:Bool)(n:Nat):(eW s n).natAbs=n:=by grind[eW]
theorem BX.val{a:List UInt8}{s:Bool}(p:BX a s n m):bg a=mkRat (eW s n) m:=by
 unfold bg;rw[p.neg,p.num,p.den,bu,bu]
theorem Cc(s:Bool)(n d:Nat):bg (cN s n d)=mkRat (eW s n) d:=by rw[(wW s n d).val,Ox]
theorem Az{s:Bool}(c:(ag n).length<=400)(e:(ag m).length<=400)(d:0<m)(f:Nat.gcd n m=1):ax (cN s n m)=true:=by
 have p:=wW s n m;have b:∀a,(ag a).length<=400->valid (ag a)=true:=λa h=>gh.2 ⟨vn a,by omega⟩;refine aP.2 ⟨?_,?_,?_,?_,?_,?_,?_⟩
 ·rw[p.num];grind
 ·rw[p.den];grind
 ·rw[p.num];omega
 ·rw[p.den];omega
 ·rw[p.neg,p.num,bM]
  grind
 ·rw[p.str,p.den,bM,ei]
  grind
 ·rw[p.num,p.den,bu,bu];omega
theorem gI.den_pos{a:List UInt8}(r:gI a):0<val (ak a):=by
 refine Nat.pos_of_ne_zero λe=>?_;have h:=(ig r.den).2 e
 cases b:bo a with
 |true=>exact r.fr ⟨b,.inl h⟩
 |false=>grind[ak]
theorem gI.txt{a:List UInt8}(r:gI a):a=cN (isNeg a) (val (numOf a)) (val (ak a)):=by
 obtain⟨n,o,_,k⟩:=cx r.num;obtain⟨d,q,_,f⟩:=cx r.den;have s:(if isNeg a=true/\val (numOf a)≠0 then[45]else([]:List UInt8))=if isNeg a=true then[45]else[]:=by
  by_cases c:isNeg a=true
  ·rw[if_pos c,if_pos ⟨c,λe=>r.neg ⟨c,(ig r.num).2 e⟩⟩]
  ·rw[if_neg c,if_neg λh=>c h.1]
 have u:a=(if isNeg a=true then[45]else[])++bj a:=by
  unfold bj;by_cases c:isNeg a=true
  ·rw[if_pos c,if_pos c];unfold isNeg at c
   cases a with
   |nil=>cases c
   |cons x l=>
    have:x=45:=by simpa using c
    rw[this];rfl
  ·rw[if_neg c,if_neg c];rfl
 have g:bo a=true↔val (ak a)≠1:=by
  constructor
  ·exact λh e=>r.fr ⟨h,.inr ((ti r.den).2 e)⟩
  ·intro h
   cases c:bo a with
   |true=>rfl
   |false=>
    refine absurd ?_ h;unfold ak;rw[c];exact Iz
 have t:bj a=ag (val (numOf a))++(if val (ak a)=1 then[]else 47::ag (val (ak a))):=by
  rw[k,f,<-o,<-q];by_cases c:bo a=true
  ·rw[if_neg (by rw[<-f];exact g.1 c)];have i:ak a=(bj a).drop (cJ 47 (bj a)+1):=by unfold ak;rw[if_pos c]
   rw[i];unfold numOf;unfold bo at c;have c:=dT c;have b:∀{l:List UInt8},cJ 47 l<l.length->l=l.take (cJ 47 l)++47::l.drop (cJ 47 l+1):=λ{l}=>by
    induction l with
    |nil=>intro h;simp at h
    | cons x l p=>
     intro h;by_cases e:x=47
     ·have:cJ 47 (x::l)=0:=by unfold cJ;rw[if_pos e]
      rw[this,e];rfl
     ·have j:cJ 47 (x::l)=cJ 47 l+1:=by unfold cJ;rw[if_neg e];cases l<;>rfl
      rw[j,List.take_succ_cons,List.drop_succ_cons,List.cons_append,<-p (by rw[j]at h;simpa using h)]
   exact b c
  ·have m:val (ak a)=1:=Classical.byContradiction λh=>c (g.2 h);rw[if_pos (by rw[<-f];exact m),List.append_nil];unfold numOf;unfold bo at c;rw[take_of_length_le (by simp at c;exact c)]
 grind[cN]
theorem gI.wu{a:List UInt8}(r:gI a):(bg a).num=eW (isNeg a) (val (numOf a)):=by
 unfold bg;rw[Rat.num_mkRat,if_neg (ne_of_gt r.den_pos),ui,Nat.gcd_comm,r.one];simp
theorem gI.GS{a:List UInt8}(r:gI a):(bg a).den=val (ak a):=by
 unfold bg;rw[Rat.den_mkRat,if_neg (ne_of_gt r.den_pos),ui,Nat.gcd_comm,r.one];simp
theorem vV{a b:List UInt8}(m:ax a=true)(i:ax b=true)(e:bg a=bg b):a=b:=by
 have f:=aP.1 m;have d:=aP.1 i;have g:=f.wu;have h:=f.GS;rw[e,d.wu]at g;rw[e,d.GS]at h;have l:val (numOf a)=val (numOf b):=by
  have:=congrArg Int.natAbs g;rw[ui,ui]at this;exact this.symm
 rw[f.txt,d.txt,<-h,<-l];congr 1;by_cases n:val (numOf a)=0
 ·have j:isNeg a=false:=by
   cases c:isNeg a with
   |false=>rfl
   |true=>exact absurd ⟨c,(ig f.num).2 n⟩ f.neg
  have k:isNeg b=false:=by
   cases c:isNeg b with
   |false=>rfl
   |true=>exact absurd ⟨c,(ig d.num).2 (by omega)⟩ d.neg
  rw[j,k]
 grind[eW]
theorem Ce(s:Bool)(A:Nat)(t:Bool)(B:Nat):eW (de s A t B).1 (de s A t B).2=eW s A+eW t B:=by
 unfold de eW
 grind
theorem E5(s:Bool)(n:Nat):eW (!s) n = - eW s n:=by grind[eW]
theorem RI{s:Bool}:eW s n<0↔s=true/\n≠0:=by grind[eW]
theorem Is{s:Bool}:eW s n=0↔n=0:=by grind[eW]
theorem E4(s t:Bool)(m n:Nat):eW (s !=t) (m*n)=eW s m*eW t n:=by unfold eW;grind
theorem mq(s:Bool)(m n:Nat):eW s (m*n)=eW s m*n:=by grind[eW]
theorem pD{a b:List UInt8}(f:ax a=true)(c:ax b=true):(cz a b<0↔bg a<bg b)/\(cz a b=0↔bg a=bg b):=by
 have e:=aP.1 f;have d:=aP.1 c;unfold cz;rw[if_pos ⟨f,c⟩];have h:=Ce (isNeg a) (val (numOf a)*val (ak b)) (!isNeg b) (val (numOf b)*val (ak a));generalize de (isNeg a) (val (numOf a)*val (ak b)) (!isNeg b) (val (numOf b)*val (ak a))=z at*;rw[E5,mq,mq,<-e.wu,<-d.wu,<-e.GS,<-d.GS]at h;rw[Rat.lt_iff,Rat.eq_iff_mul_eq_mul];have g:=RI (s:=z.1) (n:=z.2);have i:=Is (s:=z.1) (n:=z.2)
 grind
def jZ(s:Bool)(n d:Nat):Option (List UInt8):=if 400<(ag (n/Nat.gcd n d)).length\/400<(ag (d/Nat.gcd n d)).length then none else some (cN s (n/Nat.gcd n d) (d/Nat.gcd n d))
def oF(a b:List UInt8):Option (List UInt8):=jZ (de (isNeg a) (val (numOf a)*val (ak b)) (isNeg b) (val (numOf b)*val (ak a))).1 (de (isNeg a) (val (numOf a)*val (ak b)) (isNeg b) (val (numOf b)*val (ak a))).2 (val (ak a)*val (ak b))
def yT(a b:List UInt8):Option (List UInt8):=jZ (isNeg a !=isNeg b) (val (numOf a)*val (numOf b)) (val (ak a)*val (ak b))
def GA(a b:List UInt8):Option (List UInt8):=jZ (isNeg a !=isNeg b) (val (numOf a)*val (ak b)) (val (ak a)*val (numOf b))
def qc(a:List UInt8):List UInt8:=cN (!isNeg a) (val (numOf a)) (val (ak a))
theorem ta{s:Bool}{c:List UInt8}(b:0<m)(h:jZ s n m=some c):ax c=true/\bg c=mkRat (eW s n) m:=by
 unfold jZ at h;split at h
 ·cases h
 ·next g=>
  obtain rfl:=oI h;have e:0<Nat.gcd n m:=Nat.gcd_pos_of_pos_right n b;have f:=Nat.gcd_dvd_left n m;have d:=Nat.gcd_dvd_right n m;have a:0<m/Nat.gcd n m:=Nat.div_pos (Nat.le_of_dvd b d) e;refine⟨Az (by omega) (by omega) a ?_,?_⟩
  ·grind[Nat.gcd_div,Nat.div_self]
  ·rw[Cc,Rat.mkRat_eq_iff (ne_of_gt a) (ne_of_gt b),<-mq,<-mq]
   grind[Nat.div_mul_cancel,Nat.mul_assoc]
theorem K6{s:Bool}(a:(ag n).length<=400)(b:(ag m).length<=400)(c:Nat.gcd n m=1):jZ s n m=some (cN s n m):=by simp_all[jZ]
theorem nf{a b c:List UInt8}(j:ax a=true)(f:ax b=true)(h:oF a b=some c):ax c=true/\bg c=bg a+bg b:=by
 have e:=aP.1 j;have d:=aP.1 f;obtain⟨g,i⟩:=ta (mul_pos e.den_pos d.den_pos) h;refine⟨g,?_⟩;rw[i,Ce,mq,mq];unfold bg;rw[Rat.mkRat_add_mkRat _ _ (ne_of_gt e.den_pos) (ne_of_gt d.den_pos)]
theorem AA{a b c:List UInt8}(g:ax a=true)(d:ax b=true)(h:yT a b=some c):ax c=true/\bg c=bg a*bg b:=by
 have f:=aP.1 g;have e:=aP.1 d;obtain⟨i,j⟩:=ta (mul_pos f.den_pos e.den_pos) h
 grind[E4,Rat.mkRat_mul_mkRat,bg]
theorem Ih{a b c:List UInt8}(l:ax a=true)(i:ax b=true)(f:val (numOf b)≠0)(h:GA a b=some c):ax c=true/\bg c=bg a*(bg b)⁻¹:=by
 have d:=aP.1 l;have g:=aP.1 i;obtain⟨j,k⟩:=ta (mul_pos d.den_pos (Nat.pos_of_ne_zero f)) h;refine⟨j,?_⟩;have m:bg c*bg b=bg a:=by
  rw[k,E4];unfold bg;rw[Rat.mkRat_mul_mkRat,Rat.mkRat_eq_iff (ne_of_gt (mul_pos (mul_pos d.den_pos (Nat.pos_of_ne_zero f)) g.den_pos)) (ne_of_gt d.den_pos)];have e:∀(s t:Bool)(A B C D:Nat),eW s A*eW t B*eW t C*(D:Int)=eW s A*((D*C*B:Nat):Int):=λs t A B C D=>by
   unfold eW
   cases s<;>cases t<;>simp<;>grind
  exact e _ _ _ _ _ _
 have n:bg b≠0:=λe=>f (by
  have:=g.wu;rw[e]at this;exact Is.1 this.symm)
 grind
theorem uh{a:List UInt8}(g:ax a=true):ax (qc a)=true/\bg (qc a) = - bg a:=by
 have b:=aP.1 g;obtain⟨n,e,_,c⟩:=cx b.num;obtain⟨d,f,_,h⟩:=cx b.den;unfold qc;refine⟨Az ?_ ?_ b.den_pos b.one,?_⟩
 ·rw[c,<-e];exact b.ln
 ·rw[h,<-f];exact b.ld
 grind[Cc,E5,Rat.neg_mkRat,bg]
section
structure bm(K:Type) where
 zero:K
 one:K
 add:K->K->K
 mul:K->K->K
 star:K->K
 le:K->K->Prop
 add_assoc:∀a b c,add (add a b) c=add a (add b c)
 add_comm:∀a b,add a b=add b a
 zero_add:∀a,add zero a=a
 mul_assoc:∀a b c,mul (mul a b) c=mul a (mul b c)
 mul_comm:∀a b,mul a b=mul b a
 one_mul:∀a,mul one a=a
 zero_mul:∀a,mul zero a=zero
 mul_add:∀a b c,mul a (add b c)=add (mul a b) (mul a c)
 le_refl:∀a,le a a
 le_trans:∀{a b c},le a b->le b c->le a c
 G8:∀{a b},le a b->le b a->a=b
 zero_le:∀a,le zero a
 Cl:∀{a b c d},le a b->le c d->le (add a c) (add b d)
 LZ:∀{a b}(c),le a b->le (mul c a) (mul c b)
 yv:∀a,add one (mul a (star a))=star a
 si:∀{a b x},le (add b (mul a x)) x->le (mul (star a) b) x
namespace bm
def db{K:Type}(S:bm K)(f:Nat->K):Nat->K
 |0=>S.zero
 |n+1=>S.add (db S f n) (f n)
variable {K:Type} {S:bm K}
theorem add_zero(a:K):S.add a S.zero=a:=by rw[S.add_comm,S.zero_add]
theorem mul_zero(a:K):S.mul a S.zero=S.zero:=by rw[S.mul_comm,S.zero_mul]
theorem mul_one(a:K):S.mul a S.one=a:=by rw[S.mul_comm,S.one_mul]
theorem add_mul(a b c:K):S.mul (S.add a b) c=S.add (S.mul a c) (S.mul b c):=by rw[S.mul_comm,S.mul_add,S.mul_comm c a,S.mul_comm c b]
theorem El(a b c:K):S.add a (S.add b c)=S.add b (S.add a c):=by rw[<-S.add_assoc,S.add_comm a b,S.add_assoc]
theorem abx(a b c d:K):S.add (S.add a b) (S.add c d)=S.add (S.add a c) (S.add b d):=by rw[S.add_assoc,S.add_assoc,El b c d]
theorem aX{f g:Nat->K}:∀{n:Nat},(∀i,i<n->f i=g i)->S.db f n=S.db g n
 |0,_=>rfl
 |n+1,h=>by
  show S.add _ _=S.add _ _;rw[aX λi a=>h i (Nat.lt_succ_of_lt a),h n (Nat.lt_succ_self n)]
theorem jU(f g:Nat->K):∀n,S.db (λi=>S.add (f i) (g i)) n=S.add (S.db f n) (S.db g n)
 |0=>(S.zero_add _).symm
 |n+1=>by
  show S.add (S.db _ n) _=S.add (S.add _ _) (S.add _ _);rw[jU f g n,abx]
theorem yy(c:K)(f:Nat->K):∀n,S.db (λi=>S.mul c (f i)) n=S.mul c (S.db f n)
 |0=>(mul_zero c).symm
 |n+1=>by
  show S.add (S.db _ n) _=S.mul c (S.add _ _);rw[yy c f n,S.mul_add]
theorem uP(c:K)(f:Nat->K)(n:Nat):S.db (λi=>S.mul (f i) c) n=S.mul (S.db f n) c:=by
 rw[S.mul_comm,<-yy];exact aX λi _=>S.mul_comm _ _
theorem iL:∀n,S.db (λ_=>S.zero) n=S.zero
 |0=>rfl
 |n+1=>by
  show S.add (S.db _ n) _=_;rw[iL n,S.zero_add]
theorem yz(f:Nat->Nat->K)(m:Nat):∀n,S.db (λi=>S.db (f i) m) n=S.db (λj=>S.db (λi=>f i j) n) m
 |0=>(iL m).symm
 |n+1=>by
  show S.add (S.db _ n) _=_;rw[yz f m n,<-jU];rfl
theorem le_of_eq{a b:K}(h:a=b):S.le a b:=h▸S.le_refl a
def elim{K:Type}(S:bm K)(a:Nat->Nat->K):Nat->Nat->Nat->K
 |0=>a
 |k+1=>λi j=>S.add (elim S a k i j) (S.mul (S.mul (elim S a k i k) (S.star (elim S a k k k))) (elim S a k k j))
theorem Vl(a b:K):S.add b (S.mul (S.mul b (S.star a)) a)=S.mul b (S.star a):=by
 have h:S.mul b (S.add S.one (S.mul a (S.star a)))=S.mul b (S.star a):=by rw[S.yv]
 rw[S.mul_add,mul_one]at h;rw[S.mul_assoc,S.mul_comm (S.star a) a];exact h
theorem ND(a:Nat->Nat->K):∀(k i j:Nat),elim S a k i j=S.add (a i j) (S.db (λl=>S.mul (a i l) (elim S a k l j)) k)
 |0,i,j=>(add_zero _).symm
 | k+1,i,j=>by
  have b:=ND a k;show S.add (elim S a k i j) _=S.add (a i j) (S.add (S.db _ k) (S.mul (a i k) (elim S a (k+1) k j)));have d:S.db (λl=>S.mul (a i l) (elim S a (k+1) l j)) k=S.add (S.db (λl=>S.mul (a i l) (elim S a k l j)) k) (S.mul (S.db (λl=>S.mul (a i l) (elim S a k l k)) k) (S.mul (S.star (elim S a k k k)) (elim S a k k j))):=by
   rw[<-uP,<-jU];refine aX λl _=>?_;show S.mul (a i l) (S.add _ _)=_;rw[S.mul_add,S.mul_assoc,S.mul_assoc]
  have e:elim S a (k+1) k j=S.mul (S.star (elim S a k k k)) (elim S a k k j):=by
   show S.add (elim S a k k j) _=_;rw[S.mul_comm (elim S a k k k) _,S.mul_assoc];have h:=S.yv (elim S a k k k);have c:S.mul (S.add S.one (S.mul (elim S a k k k) (S.star (elim S a k k k)))) (elim S a k k j)=S.mul (S.star (elim S a k k k)) (elim S a k k j):=by rw[h]
   rw[add_mul,S.one_mul,S.mul_comm (elim S a k k k),S.mul_assoc]at c;exact c
  rw[d,e,S.add_assoc,<-S.add_assoc (a i j),<-b i j];congr 1;rw[<-add_mul,S.add_comm (S.db _ _) (a i k),<-b i k,S.mul_assoc]
def KU(S:bm K)(a:Nat->Nat->K)(n:Nat)(c:Nat->K)(i:Nat):K:=S.add (c i) (S.db (λj=>S.mul (elim S a n i j) (c j)) n)
theorem MP(a:Nat->Nat->K)(n:Nat)(c:Nat->K)(i:Nat):KU S a n c i=S.add (c i) (S.db (λl=>S.mul (a i l) (KU S a n c l)) n):=by
 unfold KU;congr 1;have b:S.db (λj=>S.mul (elim S a n i j) (c j)) n=S.add (S.db (λj=>S.mul (a i j) (c j)) n) (S.db (λj=>S.db (λl=>S.mul (a i l) (S.mul (elim S a n l j) (c j))) n) n):=by
  rw[<-jU];refine aX λj _=>?_;rw[ND a n i j,add_mul,<-uP];congr 1;exact aX λl _=>S.mul_assoc _ _ _
 rw[b,yz,<-jU];refine aX λl _=>?_;rw[S.mul_add,yy]
theorem qN{f:Nat->K}(k:Nat):∀{n:Nat},k<=n->S.db f n=S.add (S.db f k) (S.db (λi=>f (k+i)) (n-k))
 |0,h=>by
  obtain rfl:k=0:=by omega
  exact(S.zero_add _).symm
 | n+1,h=>by
  by_cases e:k=n+1
  ·subst e;rw[Nat.sub_self];exact(add_zero _).symm
  ·have a:k<=n:=by omega
   rw[show n+1-k=(n-k)+1 by omega];show S.add (S.db f n) (f n)=S.add _ (S.add _ (f (k+(n-k))));rw[qN k a,S.add_assoc,show k+(n-k)=n by omega]
theorem NF(a:Nat->Nat->K){n:Nat}{c x:Nat->K}(o:∀i,i<n->S.le (S.add (c i) (S.db (λj=>S.mul (a i j) (x j)) n)) (x i)):∀(k:Nat),k<=n->∀i,i<n->S.le (S.add (c i) (S.db (λj=>S.mul (elim S a k i j) (if j<k then c j else x j)) n)) (x i)
 |0,_,i,l=>by
  have h:=o i l;exact h
 | k+1,y,i,l=>by
  have d:=NF a o k (by omega);have p:k<n:=by omega
  have b:∀(g:Nat->K),S.db g n=S.add (g k) (S.db (λj=>if j=k then S.zero else g j) n):=λg=>by
   have w:∀m,S.db g m=S.add (if k<m then g k else S.zero) (S.db (λj=>if j=k then S.zero else g j) m):=λm=>by
    induction m with
    |zero=>rw[if_neg (Nat.not_lt_zero k)];exact(S.zero_add _).symm
    | succ m d=>
     show S.add (S.db g m) (g m)=S.add _ (S.add (S.db _ m) (if m=k then S.zero else g m));rw[d];by_cases e:m=k
     ·subst e;rw[if_neg (lt_irrefl m),if_pos (Nat.lt_succ_self m),if_pos rfl,S.zero_add,add_zero,S.add_comm]
     ·by_cases h:k<m
      ·rw[if_pos h,if_pos (by omega),if_neg e,S.add_assoc]
      ·rw[if_neg h,if_neg (by omega),if_neg e,S.add_assoc]
   grind
  let s:=S.star (elim S a k k k)
  let r:=S.add (c k) (S.db (λj=>if j=k then S.zero else S.mul (elim S a k k j) (if j<k then c j else x j)) n)
  have t:S.le (S.mul s r) (x k):=by
   refine S.si ?_;have h:=d k p;rw[b]at h;rw[if_neg (lt_irrefl k)]at h;refine S.le_trans (le_of_eq ?_) h;show S.add (S.add (c k) _) _=_;rw[S.add_assoc,S.add_comm (S.db _ n)]
  have f:=d i l;rw[b]at f;rw[if_neg (lt_irrefl k)]at f;refine S.le_trans (le_of_eq ?_) (S.le_trans (S.Cl (S.le_refl (c i)) (S.Cl (S.LZ (elim S a k i k) t) (S.le_refl (S.db (λj=>if j=k then S.zero else S.mul (elim S a k i j) (if j<k then c j else x j)) n)))) f);congr 1;rw[b];rw[if_pos (Nat.lt_succ_self k)];have q:S.mul (elim S a (k+1) i k) (c k)=S.mul (elim S a k i k) (S.mul s (c k)):=by
   show S.mul (S.add _ _) _=_;rw[Vl,S.mul_assoc]
  have v:S.mul (elim S a k i k) (S.mul s r)=S.add (S.mul (elim S a k i k) (S.mul s (c k))) (S.db (λj=>if j=k then S.zero else S.mul (S.mul (S.mul (elim S a k i k) s) (elim S a k k j)) (if j<k then c j else x j)) n):=by
   show S.mul _ (S.mul s (S.add _ _))=_;rw[S.mul_add,S.mul_add];congr 1;rw[<-S.mul_assoc,<-yy];refine aX λj _=>?_;by_cases e:j=k
   ·rw[if_pos e,if_pos e,mul_zero]
   ·rw[if_neg e,if_neg e,S.mul_assoc (S.mul _ s)]
  rw[q,v,S.add_assoc,<-jU];congr 1;refine aX λj _=>?_;by_cases e:j=k
  ·rw[if_pos e,if_pos e,if_pos e,S.zero_add]
  ·rw[if_neg e,if_neg e,if_neg e];have u:(if j<k+1 then c j else x j)=if j<k then c j else x j:=by
    by_cases h:j<k
    ·grind
    ·grind
   rw[u];show S.mul (S.add _ _) _=_;rw[add_mul,S.add_comm]
theorem F9(a:Nat->Nat->K){n:Nat}{c x:Nat->K}(b:∀i,i<n->S.le (S.add (c i) (S.db (λj=>S.mul (a i j) (x j)) n)) (x i)){i:Nat}(d:i<n):S.le (KU S a n c i) (x i):=by
 refine S.le_trans (le_of_eq ?_) (NF a b n (Nat.le_refl _) i d)
 simp_all[aX,KU]
end bm
end
end Go.Num
end
section
namespace Go.Num
inductive sO where
 |fin (q:Rat)
 |inf
 |low
namespace sO
def add:sO->sO->sO
 |low,_=>low
 |_,low=>low
 |inf,b=>b
 |a,inf=>a
 |fin p,fin q=>fin (if p<=q then p else q)
def mul:sO->sO->sO
 |inf,_=>inf
 |_,inf=>inf
 |low,_=>low
 |_,low=>low
 |fin p,fin q=>fin (p+q)
def star:sO->sO
 |inf=>fin 0
 |low=>low
 |fin p=>if 0<=p then fin 0 else low
def le:sO->sO->Prop
 |inf,_=>True
 |_,low=>True
 |fin p,fin q=>q<=p
 |_,_=>False
def S:bm sO where
 zero:=inf
 one:=fin 0
 add:=add
 mul:=mul
 star:=star
 le:=le
 add_assoc a b c:=by cases a<;>cases b<;>cases c<;>simp only[add]<;>(try rfl)<;>(grind)
 add_comm a b:=by cases a<;>cases b<;>simp only[add]<;>(grind)
 zero_add a:=by cases a<;>rfl
 mul_assoc a b c:=by cases a<;>cases b<;>cases c<;>simp only[mul]<;>(grind)
 mul_comm a b:=by cases a<;>cases b<;>simp only[mul]<;>(grind)
 one_mul a:=by cases a<;>simp only[mul]<;>(grind)
 zero_mul a:=by rfl
 mul_add a b c:=by cases a<;>cases b<;>cases c<;>simp only[mul,add]<;>(grind)
 le_refl a:=by cases a<;>simp only[le]<;>grind
 le_trans {a b c} e f:=by cases a<;>cases b<;>cases c<;>simp only[le]at*<;>grind
 G8 {a b} e f:=by cases a<;>cases b<;>simp only[le]at*<;>grind
 zero_le a:=by cases a<;>trivial
 Cl {a b c d} e f:=by cases a<;>cases b<;>cases c<;>cases d<;>simp only[le,add]at*<;>grind
 LZ {a b} c h:=by cases a<;>cases b<;>cases c<;>simp only[le,mul]at*<;>grind
 yv a:=by
  cases a with
  |fin p=>grind[star,mul,add]
  |inf=>rfl
  |low=>rfl
 si {a b x} h:=by
  cases a with
  |fin p=>
   simp only[star];split<;>cases b<;>cases x<;>simp only[mul,add,le]at*<;>grind
  |inf=>cases b<;>cases x<;>simp only[star,mul,add,le]at*<;>grind
  |low=>cases b<;>cases x<;>simp only[star,mul,add,le]at*<;>grind
end sO
end Go.Num
namespace Go.Num
inductive fV where
 |fin (q:Rat) (h:0<=q)
 |inf
namespace fV
theorem ext{p q:Rat}{h:0<=p}{a:0<=q}(e:p=q):fin p h=fin q a:=by grind
def mul:fV->fV->fV
 |fin p b,fin q a=>fin (p*q) (Rat.mul_nonneg b a)
 |fin p b,inf=>if p=0 then fin 0 (by grind)else inf
 |inf,fin q a=>if q=0 then fin 0 (by grind)else inf
 |inf,inf=>inf
def add:fV->fV->fV
 |fin p b,fin q a=>fin (p+q) (by grind)
 |_,_=>inf
def le:fV->fV->Prop
 |_,inf=>True
 |fin p _,fin q _=>p<=q
 |inf,fin _ _=>False
theorem inv_pos{p:Rat}(h:p<1):0<=(1-p)⁻¹:=by grind[Rat.inv_pos]
def star:fV->fV
 |inf=>inf
 |fin p _=>if h:p<1 then fin (1-p)⁻¹ (inv_pos h)else inf
theorem aeC{p q:Rat}:p*q=0↔p=0\/q=0:=by grind
theorem LY(a b c:fV):mul (mul a b) c=mul a (mul b c):=by
 cases a with
 | fin p f=>
  cases b with
  |fin q e=>
   cases c with
   |fin r d=>exact ext (Rat.mul_assoc p q r)
   |inf=>grind[mul]
  |inf=>
   cases c with
   |fin r d=>grind[mul]
   |inf=>grind[mul]
 | inf=>
  cases b with
  |fin q e=>
   cases c with
   |fin r d=>grind[mul]
   |inf=>grind[mul]
  |inf=>
   cases c with
   |fin r d=>grind[mul]
   |inf=>rfl
theorem FC(a b:fV):mul a b=mul b a:=by
 cases a<;>cases b<;>simp only[mul]
 simp[Rat.mul_comm]
theorem T4(a:fV):mul (fin 1 (by grind)) a=a:=by
 cases a with
 |fin p b=>exact ext (Rat.one_mul p)
 |inf=>rfl
theorem Aw(a:fV):mul (fin 0 (by grind)) a=fin 0 (by grind):=by
 cases a with
 |fin p b=>exact ext (Rat.zero_mul p)
 |inf=>rfl
theorem TR(a b c:fV):mul a (add b c)=add (mul a b) (mul a c):=by
 cases a with
 |fin p e=>
  cases b<;>cases c<;>simp only[mul,add]
  ·exact ext (Rat.mul_add _ _ _)
  all_goals grind
 | inf=>
  cases b with
  |fin q d=>
   cases c with
   |fin r f=>grind[mul,add]
   |inf=>grind[mul,add]
  |inf=>rfl
theorem NN{a b:fV}(c:fV)(h:le a b):le (mul c a) (mul c b):=by
 cases c with
 | fin p i=>
  cases a with
  | fin q g=>
   cases b with
   |fin r d=>exact Rat.mul_le_mul_of_nonneg_left h i
   |inf=>
    simp only[mul];by_cases e:p=0
    all_goals simp_all[le]
  |inf=>
   cases b with
   |fin r d=>exact h.elim
   |inf=>grind[mul,le]
 | inf=>
  cases a with
  | fin q g=>
   cases b with
   | fin r d=>
    have h:q<=r:=h;simp only[mul];by_cases f:r=0
    ·have:q=0:=by grind
     simp[f,this,le]
    simp_all[le]
   |inf=>simp[mul,le]
  |inf=>
   cases b with
   |fin r d=>exact h.elim
   |inf=>simp[mul,le]
theorem inv_eq{p:Rat}(h:p<1):1+p*(1-p)⁻¹=(1-p)⁻¹:=by grind
theorem Pt{p b x:Rat}(h:p<1)(e:b+p*x<=x):(1-p)⁻¹*b<=x:=by
 have a:(1-p)⁻¹*(1-p)=1:=Rat.inv_mul_cancel _ (by grind);have c:b<=(1-p)*x:=by grind
 have d:=Rat.mul_le_mul_of_nonneg_left c (inv_pos h);have f:(1-p)⁻¹*((1-p)*x)=x:=by rw[<-Rat.mul_assoc,a,Rat.one_mul]
 grind
def S:bm fV where
 zero:=fin 0 (by grind)
 one:=fin 1 (by grind)
 add:=add
 mul:=mul
 star:=star
 le:=le
 add_assoc a b c:=by
  cases a<;>cases b<;>cases c<;>simp only[add]
  grind
 add_comm a b:=by
  cases a<;>cases b<;>simp only[add]
  grind
 zero_add a:=by
  cases a with
  |fin p i=>exact ext (Rat.zero_add p)
  |inf=>rfl
 mul_assoc:=LY
 mul_comm:=FC
 one_mul:=T4
 zero_mul:=Aw
 mul_add:=TR
 le_refl a:=by cases a<;>simp only[le]<;>grind
 le_trans {a b c} f g:=by cases a<;>cases b<;>cases c<;>simp only[le]at*<;>grind
 G8 {a b} f g:=by
  cases a<;>cases b<;>simp only[le]at*
  grind
 zero_le a:=by cases a<;>simp only[le]<;>assumption
 Cl {a b c d} f g:=by cases a<;>cases b<;>cases c<;>cases d<;>simp only[le,add]at*<;>grind
 LZ {a b} c h:=NN c h
 yv a:=by
  cases a with
  |fin p i=>
   simp only[star];split
   ·next h=>exact ext (inv_eq h)
   grind[mul,add]
  |inf=>rfl
 si {a b x} h:=by
  cases x with
  |inf=>grind[le]
  | fin r j=>
   cases b with
   |inf=>exact h.elim
   | fin q k=>
    cases a with
    | fin p i=>
     have h:q+p*r<=r:=h;simp only[star];split
     ·next f=>exact Pt f h
     ·next f=>
      have g:r<=p*r:=by
       have:=Rat.mul_le_mul_of_nonneg_right (show(1:Rat)<=p by grind) j
       grind
      grind[mul,le]
    | inf=>
     simp only[star,mul]at*;by_cases e:r=0
     ·subst e;simp only[if_pos rfl]at h;have h:q+0<=0:=h
      grind[le]
     ·rw[if_neg e]at h;exact h.elim
def max:fV->fV->fV
 |fin p b,fin q a=>fin (if p<=q then q else p) (by grind)
 |_,_=>inf
def tU:fV->fV
 |inf=>inf
 |fin p _=>if p<=1 then fin 1 (by grind)else inf
theorem NL{a b:fV}(h:le a b):max a b=b:=by
 cases a<;>cases b<;>simp only[le,max]at*
 grind
theorem TL{a b:fV}(h:le b a):max a b=a:=by
 cases a<;>cases b<;>simp only[le,max]at*
 grind
theorem VM(a b:fV):le a b\/le b a:=by cases a<;>cases b<;>simp only[le]<;>grind
def V:bm fV:={ S with
 add:=max
 star:=tU
 add_assoc:=λa b c=>by cases a<;>cases b<;>cases c<;>simp only[max]<;>exact ext (by grind)
 add_comm:=λa b=>by cases a<;>cases b<;>simp only[max]<;>exact ext (by grind)
 zero_add:=λa=>NL (S.zero_le a)
 mul_add:=λa b c=>by
  show mul a (max b c)=max (mul a b) (mul a c)
  grind[VM,NL,NN,TL]
 Cl:=λ{a b c d} i m=>by cases a<;>cases b<;>cases c<;>cases d<;>simp only[S,le,max]at*<;>grind
 yv:=λa=>by
  show max (fin 1 (by grind)) (mul a (tU a))=tU a
  cases a with
  |fin p k=>
   simp only[tU];split
   ·next h=>exact ext (by grind)
   grind[mul,max]
  |inf=>rfl
 si:=λ{a b x} h=>by
  have h:le (max b (mul a x)) x:=h;show le (mul (tU a) b) x;have g:le b x:=by
   refine S.le_trans (?_:le b (max b (mul a x))) h;rcases VM b (mul a x)with e|e
   ·grind[NL]
   ·rw[TL e];exact S.le_refl b
  have f:le (mul a x) x:=by
   refine S.le_trans (?_:le (mul a x) (max b (mul a x))) h;rcases VM b (mul a x)with e|e
   ·rw[NL e];exact S.le_refl _
   ·grind[TL]
  cases x with
  |inf=>grind[le]
  | fin r o=>
   cases b with
   |inf=>exact g.elim
   | fin q l=>
    have g:q<=r:=g
    cases a with
    | fin p k=>
     have f:p*r<=r:=f;simp only[tU];split
     ·next i=>
      show 1*q<=r
      grind
     ·next i=>
      have:r=0:=by
       refine Classical.byContradiction λc=>?_;have j:0<r:=by grind
       have n:=Rat.mul_lt_mul_of_pos_right (show(1:Rat)<p by grind) j
       grind
      grind[mul]
    |inf=>
     simp only[mul]at f;by_cases e:r=0
     ·grind[tU,mul]
     ·rw[if_neg e]at f;exact f.elim }
end fV
end Go.Num
end
section
namespace Go.Num
variable{z:Int}
abbrev dj:List UInt8:=[105,110,102]
abbrev hZ:List UInt8:=[45,105,110,102]
def aM(b:Int)(a:List UInt8):Bool:=decide (1<=b/\b<=3)&&(a==[105,110,102]||a==[45,105,110,102]&&b==1||ax a&&(b==1||decide (0<=cz a [48])))
def bF(a:Int):List UInt8:=if a=1 then dj else[48]
def sG(a:Int):List UInt8:=if a=1 then[48]else[49]
def du(a b:List UInt8):Int:=if a=b then 0 else if a=hZ\/b=dj then -1 else if a=dj\/b=hZ then 1 else cz a b
def Gy(c:Int)(a b:List UInt8):Int:=if c=1 then du a b else du b a
def eR(c:Int)(a b:List UInt8):Option (List UInt8):=if c≠2 then some (if Gy c b a<0 then b else a)else if a=dj\/b=dj then some dj else oF a b
def cD(c:Int)(a b:List UInt8):Option (List UInt8):=if a=bF c\/b=bF c then some (bF c)else if a=dj\/b=dj then some dj else if a=hZ\/b=hZ then some hZ else if c=1 then oF a b else yT a b
def lJ(b:Int)(a:List UInt8):Option (List UInt8):=if b=1 then(if du a [48]>=0 then some [48]else some hZ)else if b=3 then(if du a [49]<=0 then some [49]else some dj)else if du a [49]>=0 then some dj else match oF [49] (qc a)with
 |some d=>GA [49] d
 |none=>none
def B6(a:List UInt8):sO:=if a=dj then .inf else if a=hZ then .low else .fin (bg a)
noncomputable def kU(a:List UInt8):fV:=if a=dj then .inf else if h:0<=bg a then .fin (bg a) h else .inf
structure vk{K:Type}(S:bm K)(dec:List UInt8->K)(kind:Int):Prop where
 zero:dec (bF kind)=S.zero
 one:dec (sG kind)=S.one
 inj:∀{a b:List UInt8},aM kind a=true->aM kind b=true->dec a=dec b->a=b
 plus:∀{a b c:List UInt8},aM kind a=true->aM kind b=true->eR kind a b=some c->aM kind c=true/\dec c=S.add (dec a) (dec b)
 times:∀{a b c:List UInt8},aM kind a=true->aM kind b=true->cD kind a b=some c->aM kind c=true/\dec c=S.mul (dec a) (dec b)
 star:∀{a c:List UInt8},aM kind a=true->lJ kind a=some c->aM kind c=true/\dec c=S.star (dec a)
theorem fy:ax [49]=true:=by decide
theorem fz:bg [48]=0:=by rfl
theorem kW:bg [49]=1:=by rfl
theorem bW{a:List UInt8}(h:ax a=true):a≠dj/\a≠hZ:=by
 constructor<;>intro e<;>rw[e]at h<;>exact absurd h (by decide)
theorem gA{a:List UInt8}(h:aM z a=true):z=1\/z=2\/z=3:=by
 unfold aM at h
 grind
theorem mU{a:List UInt8}:aM 1 a=true↔a=dj\/a=hZ\/ax a=true:=by simp_all[or_assoc,aM]
theorem RF{a:List UInt8}(h:ax a=true):0<=cz a [48]↔0<=bg a:=by
 have:=(pD h ef).1
 grind[fz]
theorem ic(d:z=2\/z=3){a:List UInt8}:aM z a=true↔a=dj\/(ax a=true/\0<=bg a):=by
 have b:decide (1<=z/\z<=3)=true:=by simp;omega
 have c:(z==1)=false:=by rcases d with rfl|rfl<;>rfl
 unfold aM;rw[b,c,Bool.true_and,Bool.and_false,Bool.or_false,Bool.false_or,Bool.or_eq_true,Bool.and_eq_true,beq_iff_eq,decide_eq_true_eq]
 grind[RF]
theorem dp{a:List UInt8}(h:ax a=true):B6 a = .fin (bg a):=by simp_all[bW,B6]
theorem oH:B6 dj = .inf:=by rfl
theorem mj:B6 hZ = .low:=by rfl
theorem dh{a:List UInt8}(h:ax a=true)(b:0<=bg a):kU a = .fin (bg a) b:=by simp_all[bW,kU]
theorem jm:kU dj = .inf:=by rfl
theorem qT{a b:List UInt8}(d:ax a=true)(c:ax b=true):(du a b<0↔bg a<bg b)/\(du a b=0↔bg a=bg b):=by
 obtain⟨f,g⟩:=pD d c;unfold du;by_cases e:a=b
 all_goals simp_all[bW]
theorem yR{a b:List UInt8}(d:ax a=true)(c:ax b=true):du a b>=0↔bg b<=bg a:=by
 have:=(qT d c).1
 grind
theorem Oo{a b:List UInt8}(d:ax a=true)(c:ax b=true):du a b<=0↔bg a<=bg b:=by
 obtain⟨e,f⟩:=qT d c
 grind
theorem ZV:vk sO.S B6 1 where
 zero:=oH
 one:=by rfl
 inj:=λ{a b} d f e=>by grind[mU,oH,mj,dp,vV]
 plus:=λ{a b c} d f e=>by
  have e:some (if du b a<0 then b else a)=some c:=e;obtain rfl:=oI e;refine⟨by grind,?_⟩;rcases mU.1 d with rfl|rfl|d<;>rcases mU.1 f with rfl|rfl|f
  ·rfl
  ·rfl
  ·have:du b dj = -1:=by unfold du;rw[if_neg (bW f).1,if_pos (.inr rfl)]
   rw[this,if_pos (by omega),oH,dp f];rfl
  ·rfl
  ·rfl
  ·have:du b hZ=1:=by unfold du;rw[if_neg (bW f).2,if_neg (λc=>c.elim (bW f).2 (by decide)),if_pos (.inr rfl)]
   rw[this,if_neg (by omega),mj,dp f];rfl
  ·have:du dj a=1:=by unfold du;rw[if_neg (λe=>(bW d).1 e.symm),if_neg (λc=>c.elim (by decide) (bW d).1),if_pos (.inl rfl)]
   rw[this,if_neg (by omega),oH,dp d];rfl
  ·have:du hZ a = -1:=by unfold du;rw[if_neg (λe=>(bW d).2 e.symm),if_pos (.inl rfl)]
   rw[this,if_pos (by omega),mj,dp d];rfl
  ·have h:=(qT f d).1;rw[dp d,dp f];show _=sO.fin (if bg a<=bg b then bg a else bg b);by_cases c:du b a<0
   ·rw[if_pos c,dp f,if_neg (Rat.not_le.2 (h.1 c))]
   ·rw[if_neg c,dp d,if_pos (Rat.not_lt.1 λx=>c (h.2 x))]
 times:=λ{a b c} d f e=>by
  unfold cD at e;rw[show bF 1=dj from rfl]at e;rcases mU.1 d with rfl|rfl|d
  ·rw[if_pos (.inl rfl)]at e;obtain rfl:=oI e;refine⟨d,?_⟩;rfl
  ·rcases mU.1 f with rfl|rfl|f
   ·rw[if_pos (.inr rfl)]at e;obtain rfl:=oI e;exact⟨f,by rfl⟩
   ·rw[if_neg (by decide),if_neg (by decide),if_pos (.inl rfl)]at e;obtain rfl:=oI e;exact⟨f,by rfl⟩
   ·rw[if_neg (λc=>c.elim (by decide) (bW f).1),if_neg (λc=>c.elim (by decide) (bW f).1),if_pos (.inl rfl)]at e;obtain rfl:=oI e;exact⟨d,by rw[mj,dp f];rfl⟩
  ·rcases mU.1 f with rfl|rfl|f
   ·rw[if_pos (.inr rfl)]at e;obtain rfl:=oI e;exact⟨f,by rw[oH,dp d];rfl⟩
   ·rw[if_neg (λc=>c.elim (bW d).1 (by decide)),if_neg (λc=>c.elim (bW d).1 (by decide)),if_pos (.inr rfl)]at e;obtain rfl:=oI e;exact⟨f,by rw[mj,dp d];rfl⟩
   ·rw[if_neg (λc=>c.elim (bW d).1 (bW f).1),if_neg (λc=>c.elim (bW d).1 (bW f).1),if_neg (λc=>c.elim (bW d).2 (bW f).2),if_pos rfl]at e;obtain⟨i,j⟩:=nf d f e;exact⟨mU.2 (.inr (.inr i)),by rw[dp d,dp f,dp i,j];rfl⟩
 star:=λ{a c} d e=>by
  unfold lJ at e;rw[if_pos rfl]at e;rcases mU.1 d with rfl|rfl|d
  ·rw[if_pos (by decide)]at e;obtain rfl:=oI e;exact⟨by decide,by rfl⟩
  ·rw[if_neg (by decide)]at e;obtain rfl:=oI e;exact⟨by decide,by rfl⟩
  ·have h:=yR d ef;rw[fz]at h;rw[dp d];show _/\_=if 0<=bg a then sO.fin 0 else sO.low;by_cases g:du a [48]>=0
   ·rw[if_pos g]at e;obtain rfl:=oI e;exact⟨by decide,by rw[if_pos (h.1 g),dp ef,fz]⟩
   ·rw[if_neg g]at e;obtain rfl:=oI e;exact⟨by decide,by rw[if_neg λx=>g (h.2 x),mj]⟩
theorem B4(f:z=2\/z=3){a b:List UInt8}(d:aM z a=true)(c:aM z b=true)(e:kU a=kU b):a=b:=by grind[ic,jm,dh,vV]
theorem E8(a:z=2\/z=3):aM z dj=true:=by grind[ic]
theorem wO(g:z=2\/z=3){a b c:List UInt8}(j:aM z a=true)(k:aM z b=true)(e:cD z a b=some c):aM z c=true/\kU c=fV.mul (kU a) (kU b):=by
 have v:bF z=[48]:=by rcases g with rfl|rfl<;>rfl
 have t:¬z=1:=by omega
 have l:aM z [48]=true:=(ic g).2 (.inr ⟨ef,by rfl⟩);have r:kU [48] = .fin 0 Rat.le_refl:=by rw[dh ef (by rfl)];exact fV.ext fz
 unfold cD at e;rw[v]at e;have w:∀{x:List UInt8},ax x=true->x≠[48]->bg x≠0:=λs u e=>u (vV s ef (by rw[e,fz]));by_cases q:a=[48]
 ·subst q;rw[if_pos (.inl rfl)]at e;obtain rfl:=oI e;exact⟨l,by rw[r];simp[fV.Aw]⟩
 by_cases o:b=[48]
 ·subst o;rw[if_pos (.inr rfl)]at e;obtain rfl:=oI e;exact⟨l,by rw[fV.FC,r];simp[fV.Aw]⟩
 rw[if_neg (λx=>x.elim q o)]at e;rcases(ic g).1 j with rfl|⟨f,h⟩<;>rcases(ic g).1 k with rfl|⟨d,i⟩
 ·rw[if_pos (.inl rfl)]at e;obtain rfl:=oI e;exact⟨j,by rfl⟩
 ·rw[if_pos (.inl rfl)]at e;obtain rfl:=oI e;refine⟨j,?_⟩;rw[jm,dh d i];show _=if bg b=0 then _ else _
  grind
 ·rw[if_pos (.inr rfl)]at e;obtain rfl:=oI e;refine⟨k,?_⟩;rw[jm,dh f h];show _=if bg a=0 then _ else _
  grind
 ·rw[if_neg (λc=>c.elim (bW f).1 (bW d).1),if_neg (λc=>c.elim (bW f).2 (bW d).2),if_neg t]at e;obtain⟨n,m⟩:=AA f d e;have p:0<=bg c:=by rw[m];exact Rat.mul_nonneg h i
  refine⟨(ic g).2 (.inr ⟨n,p⟩),?_⟩;rw[dh f h,dh d i,dh n p];exact fV.ext m
theorem Ax:kU [48]=fV.S.zero:=by rfl
theorem B5:kU [49]=fV.S.one:=by rfl
theorem qA(b:z=2\/z=3){a:List UInt8}(h:ax a=true)(c:0<=bg a):aM z a=true:=by grind[ic]
theorem qy(a:z=2\/z=3):aM z [49]=true:=qA a fy (by rfl)
theorem ZU:vk fV.S kU 2 where
 zero:=Ax
 one:=B5
 inj:=B4 (.inl rfl)
 times:=wO (.inl rfl)
 plus:=λ{a b c} k o e=>by
  unfold eR at e;rw[if_neg (by decide)]at e;rcases(ic (.inl rfl)).1 k with rfl|⟨f,l⟩
  ·rw[if_pos (.inl rfl)]at e;obtain rfl:=oI e;exact⟨k,by rfl⟩
  rcases(ic (.inl rfl)).1 o with rfl|⟨m,q⟩
  ·rw[if_pos (.inr rfl)]at e;obtain rfl:=oI e;exact⟨o,by rw[jm];cases kU a<;>rfl⟩
  rw[if_neg (λc=>c.elim (bW f).1 (bW m).1)]at e;obtain⟨j,i⟩:=nf f m e;have n:0<=bg c:=by rw[i];exact Rat.add_nonneg l q
  refine⟨qA (.inl rfl) j n,?_⟩;rw[dh f l,dh m q,dh j n];exact fV.ext i
 star:=λ{a c} k e=>by
  unfold lJ at e;rw[if_neg (by decide),if_neg (by decide)]at e;rcases(ic (.inl rfl)).1 k with rfl|⟨f,l⟩
  ·rw[if_pos (by decide)]at e;obtain rfl:=oI e;exact⟨k,by rfl⟩
  have h:=yR f fy;rw[kW]at h;rw[dh f l];show _/\_=if h:bg a<1 then fV.fin (1-bg a)⁻¹ _ else fV.inf;by_cases g:du a [49]>=0
  ·rw[if_pos g]at e;obtain rfl:=oI e
   simp_all[E8,Rat.not_lt,jm]
  ·rw[if_neg g]at e;have u:bg a<1:=Rat.not_le.1 λx=>g (h.2 x);rw[dif_pos u]
   cases p:oF [49] (qc a)with
   |none=>grind
   | some d=>
    rw[p]at e;dsimp only at e;obtain⟨s,t⟩:=uh f;obtain⟨j,i⟩:=nf fy s p;rw[t,kW]at i;have r:bg d=1-bg a:=by rw[i,Rat.sub_eq_add_neg]
    have v:val (numOf d)≠0:=λe=>by
     have:=(aP.1 j).wu;rw[e,qY]at this;have:=Rat.num_eq_zero.1 this;rw[r]at this
     grind
    obtain⟨n,w⟩:=Ih fy j v e;rw[kW,Rat.one_mul,r]at w
    grind[qA,dh]
theorem ZW:vk fV.V kU 3 where
 zero:=Ax
 one:=B5
 inj:=B4 (.inr rfl)
 times:=wO (.inr rfl)
 plus:=λ{a b c} j l e=>by
  have e:some (if du a b<0 then b else a)=some c:=e;obtain rfl:=oI e;refine⟨by grind,?_⟩;rcases(ic (.inr rfl)).1 j with rfl|⟨d,i⟩<;>rcases(ic (.inr rfl)).1 l with rfl|⟨f,k⟩
  ·rfl
  ·have:du dj b=1:=by unfold du;rw[if_neg (λe=>(bW f).1 e.symm),if_neg (λc=>c.elim (by decide) (bW f).1),if_pos (.inl rfl)]
   rw[this,if_neg (by omega),jm];rfl
  ·have:du a dj = -1:=by unfold du;rw[if_neg (bW d).1,if_pos (.inr rfl)]
   rw[this,if_pos (by omega),jm];cases kU a<;>rfl
  ·have h:=(qT d f).1;rw[dh d i,dh f k];show _=fV.fin (if bg a<=bg b then bg b else bg a) _;by_cases c:du a b<0
   ·rw[if_pos c,dh f k]
    grind
   ·rw[if_neg c,dh d i]
    grind
 star:=λ{a c} j e=>by
  unfold lJ at e;rw[if_neg (by decide),if_pos rfl]at e;rcases(ic (.inr rfl)).1 j with rfl|⟨d,i⟩
  ·rw[if_neg (by decide)]at e;obtain rfl:=oI e;exact⟨j,by rfl⟩
  have h:=Oo d fy;rw[kW]at h;rw[dh d i];show _/\_=if bg a<=1 then fV.fin 1 _ else fV.inf;by_cases g:du a [49]<=0
  ·rw[if_pos g]at e;obtain rfl:=oI e;exact⟨qy (.inr rfl),by rw[if_pos (h.1 g),dh fy (by rw[kW];decide)];rfl⟩
  ·rw[if_neg g]at e;obtain rfl:=oI e
   simp_all[E8,jm]
theorem wR{kind:Int}(h:1<=kind/\kind<=3):∃(K:Type)(S:bm K)(a:List UInt8->K),vk S a kind:=by
 obtain rfl|rfl|rfl:kind=1\/kind=2\/kind=3:=by omega
 all_goals grind[ZV,ZU,ZW]
section
structure qb(α:Type) where
 zero:α
 one:α
 xq:α->Bool
 plus:α->α->Option α
 times:α->α->Option α
 star:α->Option α
def bd{β:Type}(f:β->Nat->Option β):Nat->Nat->β->Option β
 |0,_,b=>some b
 |k+1,i,b=>match f b i with
  |some a=>bd f k (i+1) a
  |none=>none
structure jk(α:Type) where
 i:Int
 o:Int
 w:α
 t:Nat
structure Ib(α:Type) where
 fin:Option α
 arcs:List (jk α)
structure gb(α:Type) where
 lead:α
 start:Nat
 bL:List (Ib α)
section
variable {α:Type} (O:qb α)
def gz(l:List α)(t:Nat)(a b:α):Option (List α):=match O.times a b with
 |none=>none
 |some p=>match O.plus (l.getD t O.zero) p with
  |none=>none
  |some s=>some (l.set t s)
def bB(n:Nat):List α:=List.replicate n O.zero
def ck:jk α:=⟨0,0,O.zero,0⟩
def eh:Ib α:=⟨none,[]⟩
def jM(i o:Int)(u:α)(a:List (jk α))(l:List α)(k:Nat):Option (List α):=
 if(a.getD k (ck O)).i≠i\/(a.getD k (ck O)).o≠o then some l else gz O l (a.getD k (ck O)).t u (a.getD k (ck O)).w
def qx(M:gb α)(v:List α)(i o:Int)(l:List α)(q:Nat):Option (List α):=
 if O.xq (v.getD q O.zero)then some l else bd (jM O i o (v.getD q O.zero) (M.bL.getD q eh).arcs) (M.bL.getD q eh).arcs.length 0 l
def kN(M:gb α)(v:List α)(i o:Int):Option (List α):=bd (qx O M v i o) M.bL.length 0 (bB O M.bL.length)
def wT(a b:List α)(l:List α)(i:Nat):Option (List α):=match O.plus (a.getD i O.zero) (b.getD i O.zero)with
 |none=>none
 |some s=>some (l++[s])
def nB(a b:List α):Option (List α):=bd (wT O a b) a.length 0 []
def eX(a:List (jk α))(l:List α)(k:Nat):Option (List α):=
 if(a.getD k (ck O)).i≠0\/(a.getD k (ck O)).o≠0 then some l else match O.plus (l.getD (a.getD k (ck O)).t O.zero) (a.getD k (ck O)).w with
  |none=>none
  |some s=>some (l.set (a.getD k (ck O)).t s)
def gJ(M:gb α)(A:List (List α))(q:Nat):Option (List (List α)):=match bd (eX O (M.bL.getD q eh).arcs) (M.bL.getD q eh).arcs.length 0 (bB O M.bL.length)with
 |none=>none
 |some r=>some (A++[r])
def oG(M:gb α):Bool:=M.bL.any λs=>s.arcs.any λa=>decide (a.i=0)&&decide (a.o=0)
def bS(B:List (List α))(i j:Nat):α:=(B.getD i []).getD j O.zero
def cw(B:List (List α))(s:α)(k i:Nat)(r:List α)(j:Nat):Option (List α):=
 if O.xq (bS O B i k)||O.xq (bS O B k j)then some (r++[bS O B i j])else match O.times (bS O B i k) s with
  |none=>none
  | some p=>match O.times p (bS O B k j)with
   |none=>none
   |some a=>match O.plus (bS O B i j) a with
    |none=>none
    |some c=>some (r++[c])
def iM(B:List (List α))(s:α)(k:Nat)(C:List (List α))(i:Nat):Option (List (List α)):=match bd (cw O B s k i) B.length 0 []with
 |none=>none
 |some r=>some (C++[r])
def fk(B:List (List α))(k:Nat):Option (List (List α)):=match O.star (bS O B k k)with
 |none=>none
 |some s=>bd (iM O B s k) B.length 0 []
def nW(B:List (List α))(i:Nat):Option (List (List α)):=match O.plus O.one (bS O B i i)with
 |none=>none
 |some s=>some (B.set i ((B.getD i []).set i s))
def jL(A:List (List α)):Option (List (List α)):=match bd (fk O) A.length 0 A with
 |none=>none
 |some B=>bd (nW O) A.length 0 B
def dU(M:gb α):Option (Option (List (List α))):=match bd (gJ O M) M.bL.length 0 []with
 |none=>none
 | some A=>if oG M then(if 60<M.bL.length then none else match jL O A with
   |none=>none
   |some B=>some (some B))else some none
def fJ(v:List α)(B:List (List α))(q:Nat)(l:List α)(p:Nat):Option (List α):=
 if O.xq (v.getD q O.zero)||O.xq (bS O B q p)then some l else gz O l p (v.getD q O.zero) (bS O B q p)
def fS(v:List α):Option (List (List α))->Option (List α)
 |none=>some v
 |some B=>bd (λl q=>bd (fJ O v B q) v.length 0 l) v.length 0 (bB O v.length)
def jJ(M:gb α)(v:List α)(l:List α)(q:Nat):Option (List α):=match (M.bL.getD q eh).fin with
 |none=>some l
 |some f=>gz O l 0 (v.getD q O.zero) f
def oJ(M:gb α)(v:List α):Option α:=match bd (jJ O M v) v.length 0 [O.zero]with
 |none=>none
 |some l=>some (l.getD 0 O.zero)
def dL(T:List (List (List α)))(i j:Nat):List α:=(T.getD i []).getD j []
def fm(T:List (List (List α)))(i j:Nat)(v:List α):List (List (List α)):=T.set i ((T.getD i []).set j v)
def bO(x:List Int)(i b:Nat):Int:=if b=1 then x.getD i 0 else 0
def oL(M:gb α)(x y:List Int)(v:List α)(i j:Nat)(T:List (List (List α)))(k:Nat):Option (List (List (List α))):=
 if x.length<i+k%2\/y.length<j+k/2 then some T else match kN O M v (bO x i (k%2)) (bO y j (k/2))with
  |none=>none
  |some s=>match nB O (dL T (i+k%2) (j+k/2)) s with
   |none=>none
   |some r=>some (fm T (i+k%2) (j+k/2) r)
def mT(M:gb α)(B:Option (List (List α)))(x y:List Int)(i:Nat)(T:List (List (List α)))(j:Nat):Option (List (List (List α))):=match fS O (dL T i j) B with
 |none=>none
 |some v=>bd (oL O M x y v i j) 3 1 (fm T i j v)
def qX(M:gb α)(B:Option (List (List α)))(x y:List Int)(T:List (List (List α)))(i:Nat):Option (List (List (List α))):=bd (mT O M B x y i) (y.length+1) 0 T
def kd(M:gb α)(x y:List Int):List (List (List α)):=fm (List.replicate (x.length+1) (List.replicate (y.length+1) (bB O M.bL.length))) 0 0 ((bB O M.bL.length).set M.start M.lead)
def eC(M:gb α)(x y:List Int):Option α:=match dU O M with
 |none=>none
 |some B=>match bd (qX O M B x y) (x.length+1) 0 (kd O M x y)with
  |none=>none
  |some T=>oJ O M (dL T x.length y.length)
end
structure Gu{α β:Type}(O:qb α)(P:qb β)(V:α->Prop)(h:α->β):Prop where
 zero:V O.zero/\h O.zero=P.zero
 one:V O.one/\h O.one=P.one
 xq:∀{a},V a->P.xq (h a)=O.xq a
 plus:∀{a b c},V a->V b->O.plus a b=some c->V c/\P.plus (h a) (h b)=some (h c)
 times:∀{a b c},V a->V b->O.times a b=some c->V c/\P.times (h a) (h b)=some (h c)
 star:∀{a c},V a->O.star a=some c->V c/\P.star (h a)=some (h c)
theorem eB{β j:Type}{H:β->j}{VB:β->Prop}{f:β->Nat->Option β}{g:j->Nat->Option j}(l:∀b i a,VB b->f b i=some a->VB a/\g (H b) i=some (H a)):∀(k i:Nat)(b a:β),VB b->bd f k i b=some a->VB a/\bd g k i (H b)=some (H a)
 |0,i,b,a,d,h=>by
  obtain rfl:=oI h;exact⟨d,rfl⟩
 | k+1,i,b,a,d,h=>by
  unfold bd at h⊢
  cases e:f b i with
  |none=>grind
  |some c=>
   rw[e]at h;obtain⟨m,n⟩:=l b i c d e;rw[n];exact eB l k (i+1) c a m h
def mapA{α β:Type}(h:α->β)(a:jk α):jk β:=⟨a.i,a.o,h a.w,a.t⟩
def qW{α β:Type}(h:α->β)(s:Ib α):Ib β:=⟨s.fin.map h,s.arcs.map (mapA h)⟩
def mapM{α β:Type}(h:α->β)(M:gb α):gb β:=⟨h M.lead,M.start,M.bL.map (qW h)⟩
def bq{α:Type}(V:α->Prop)(l:List α):Prop:=∀a∈l,V a
structure BY{α:Type}(V:α->Prop)(M:gb α):Prop where
 lead:V M.lead
 fin:∀s∈M.bL,∀f,s.fin=some f->V f
 w:∀s∈M.bL,∀a∈s.arcs,V a.w
section
variable {α β:Type} {O:qb α} {P:qb β} {V:α->Prop} {h:α->β}
theorem s8(l:List α)(i:Nat)(d:α):(l.map h).getD i (h d)=h (l.getD i d):=by grind
theorem oK{l:List α}(b:bq V l){d:α}(c:V d)(i:Nat):V (l.getD i d):=by
 rw[gD]
 cases e:l[i]? with
 |none=>grind
 |some a=>exact b a (List.mem_of_getElem? e)
theorem bq.set{l:List α}(b:bq V l){a:α}(d:V a)(i:Nat):bq V (l.set i a):=λx c=>by
 rcases List.mem_or_eq_of_mem_set c with h|h
 ·exact b x h
 grind
theorem bq.snoc{l:List α}(b:bq V l){a:α}(d:V a):bq V (l++[a]):=λx c=>by
 rcases mem_append.1 c with h|h
 ·exact b x h
 grind
theorem bq.rep{a:α}(c:V a)(n:Nat):bq V (List.replicate n a):=λx b=>by grind
variable (H:Gu O P V h)
include H
theorem Gu.getD(l:List α)(i:Nat):(l.map h).getD i P.zero=h (l.getD i O.zero):=by rw[<-H.zero.2];grind
theorem Gu.at_{l:List α}(a:bq V l)(i:Nat):V (l.getD i O.zero):=oK a H.zero.1 i
theorem vO{l c:List α}{a b:α}{t:Nat}(f:bq V l)(n:V a)(i:V b)(e:gz O l t a b=some c):bq V c/\gz P (l.map h) t (h a) (h b)=some (c.map h):=by
 unfold gz at e⊢
 cases d:O.times a b with
 |none=>grind
 | some p=>
  rw[d]at e;obtain⟨k,m⟩:=H.times n i d;rw[m];dsimp only at e⊢;rw[H.getD]
  cases g:O.plus (l.getD t O.zero) p with
  |none=>grind
  |some s=>
   rw[g]at e;obtain⟨j,o⟩:=H.plus (H.at_ f t) k g;obtain rfl:=oI e;rw[o];exact⟨f.set j t,by simp⟩
theorem B0(a:List (jk α))(k:Nat):(a.map (mapA h)).getD k (ck P)=mapA h (a.getD k (ck O)):=by
 have:ck P=mapA h (ck O):=by unfold ck mapA;rw[H.zero.2]
 grind
theorem Nl{b:List (jk α)}(c:∀a∈b,V a.w)(k:Nat):V (b.getD k (ck O)).w:=
 oK (V:=λ(a:jk α)=>V a.w) c (by unfold ck;exact H.zero.1) k
theorem Ef{i o:Int}{u:α}{b:List (jk α)}(g:V u)(j:∀a∈b,V a.w)(l:List α)(k:Nat)(d:List α)(f:bq V l)(e:jM O i o u b l k=some d):bq V d/\jM P i o (h u) (b.map (mapA h)) (l.map h) k=some (d.map h):=by
 unfold jM at e⊢;rw[B0 H];show bq V d/\(if(b.getD k (ck O)).i≠i\/(b.getD k (ck O)).o≠o then some (l.map h)else gz P (l.map h) (b.getD k (ck O)).t (h u) (h (b.getD k (ck O)).w))=some (d.map h);split at e
 ·grind
 ·next c=>rw[if_neg c];grind[vO,Nl]
omit H in
theorem yX(M:gb α)(q:Nat):(mapM h M).bL.getD q eh=qW h (M.bL.getD q eh):=s8 (h:=qW h) M.bL q eh
omit H in
theorem tc{M:gb α}(q:Nat):M.bL.getD q eh=eh\/M.bL.getD q eh∈M.bL:=by grind
omit H in
theorem RJ{M:gb α}(c:BY V M)(q:Nat):∀a∈(M.bL.getD q eh).arcs,V a.w:=λa b=>by
 rcases tc (M:=M) q with e|e
 ·rw[e]at b;cases b
 ·exact c.w _ e a b
omit H in
theorem WC{M:gb α}(b:BY V M)(q:Nat){f:α}(a:(M.bL.getD q eh).fin=some f):V f:=by
 rcases tc (M:=M) q with e|e
 ·rw[e]at a;cases a
 ·exact b.fin _ e f a
theorem pF(n:Nat):bq V (bB O n)/\(bB O n).map h=bB P n:=⟨bq.rep H.zero.1 n,by unfold bB;rw[List.map_replicate,H.zero.2]⟩
theorem Iu{M:gb α}(j:BY V M){v b:List α}{i o:Int}(d:bq V v)(e:kN O M v i o=some b):bq V b/\kN P (mapM h M) (v.map h) i o=some (b.map h):=by
 unfold kN at e⊢;have f:=pF H M.bL.length;have a:(mapM h M).bL.length=M.bL.length:=lM _;rw[a,<-f.2];refine eB (VB:=bq V) (H:=List.map h) (λl q k g e=>?_) _ _ _ _ f.1 e;unfold qx at e⊢;rw[H.getD,yX,H.xq (H.at_ d q)];split at e
 ·grind
 ·next c=>
  rw[if_neg c];have a:(qW h (M.bL.getD q eh)).arcs.length=(M.bL.getD q eh).arcs.length:=lM _;rw[a];exact eB (VB:=bq V) (H:=List.map h) (Ef H (H.at_ d q) (RJ j q)) _ _ _ _ g e
theorem Ld{a b c:List α}(k:bq V a)(f:bq V b)(e:nB O a b=some c):bq V c/\nB P (a.map h) (b.map h)=some (c.map h):=by
 unfold nB at e⊢;rw[lM];refine eB (VB:=bq V) (H:=List.map h) (λl q m g e=>?_) _ _ _ _ (λx n=>by grind) e;unfold wT at e⊢;rw[H.getD,H.getD]
 cases d:O.plus (a.getD q O.zero) (b.getD q O.zero)with
 |none=>grind
 |some s=>
  rw[d]at e;obtain⟨i,j⟩:=H.plus (H.at_ k q) (H.at_ f q) d;obtain rfl:=oI e;rw[j];exact⟨g.snoc i,by grind⟩
theorem ox(B:List (List α))(i j:Nat):bS P (B.map (List.map h)) i j=h (bS O B i j):=by
 unfold bS;have:(B.map (List.map h)).getD i []=(B.getD i []).map h:=s8 (h:=List.map h) B i [];rw[this,H.getD]
theorem mS{B:List (List α)}(a:bq (bq V) B)(i j:Nat):V (bS O B i j):=H.at_ (oK a (λx b=>by grind) i) j
theorem GC{M:gb α}(vm:BY V M){r:Option (List (List α))}(e:dU O M=some r):(∀B,r=some B->bq (bq V) B)/\dU P (mapM h M)=some (r.map (List.map (List.map h))):=by
 unfold dU at e⊢;have I:(mapM h M).bL.length=M.bL.length:=lM _;rw[I]
 cases J:bd (gJ O M) M.bL.length 0 []with
 |none=>grind
 | some A=>
  rw[J]at e;obtain⟨h1,t⟩:=eB (VB:=bq (bq V)) (H:=List.map (List.map h)) (g:=gJ P (mapM h M)) (λA q A' hA e=>by
   unfold gJ at e⊢;have R:=pF H M.bL.length;rw[yX,I,<-R.2];have K:(qW h (M.bL.getD q eh)).arcs.length=(M.bL.getD q eh).arcs.length:=lM _;rw[K]
   cases y:bd (eX O (M.bL.getD q eh).arcs) (M.bL.getD q eh).arcs.length 0 (bB O M.bL.length)with
   |none=>rw[y]at e;cases e
   | some r=>
    rw[y]at e;obtain rfl:=oI e;obtain⟨Y,h4⟩:=eB (VB:=bq V) (H:=List.map h) (g:=eX P (qW h (M.bL.getD q eh)).arcs) (λl k l' o e=>by
     unfold eX at e⊢;show _/\(if(((M.bL.getD q eh).arcs.map (mapA h)).getD k (ck P)).i≠0\/(((M.bL.getD q eh).arcs.map (mapA h)).getD k (ck P)).o≠0 then some (l.map h)else match P.plus ((l.map h).getD (((M.bL.getD q eh).arcs.map (mapA h)).getD k (ck P)).t P.zero) (((M.bL.getD q eh).arcs.map (mapA h)).getD k (ck P)).w with
      |none=>none
      |some s=>some ((l.map h).set (((M.bL.getD q eh).arcs.map (mapA h)).getD k (ck P)).t s))=_
     rw[B0 H];have hw:=Nl H (RJ vm q) k;generalize (M.bL.getD q eh).arcs.getD k (ck O)=c at*;show _/\(if c.i≠0\/c.o≠0 then some (l.map h)else match P.plus ((l.map h).getD c.t P.zero) (h c.w)with
      |none=>none
      |some s=>some ((l.map h).set c.t s))=_
     split at e
     ·next g=>rw[if_pos g];obtain rfl:=oI e;exact⟨o,rfl⟩
     ·next g=>
      rw[if_neg g,H.getD]
      cases a:O.plus (l.getD c.t O.zero) c.w with
      |none=>rw[a]at e;cases e
      |some s=>
       rw[a]at e;obtain⟨F,z⟩:=H.plus (H.at_ o c.t) hw a;obtain rfl:=oI e;rw[z];exact⟨o.set F _,by rw[map_set]⟩) _ _ _ _ R.1 y
    rw[h4];exact⟨hA.snoc Y,by rw[map_append];rfl⟩) _ _ _ _ (λx d=>by cases d) J
  have t:bd (gJ P (mapM h M)) M.bL.length 0 []=some (A.map (List.map h)):=t;rw[t];dsimp only at e⊢;have ha:oG (mapM h M)=oG M:=by
   unfold oG;show(M.bL.map (qW h)).any _=_;rw[List.any_map];congr 1;funext s;show((s.arcs.map (mapA h)).any _)=_;rw[List.any_map];rfl
  rw[ha];split at e
  ·next c=>
   rw[if_pos c];split at e
   ·cases e
   ·next c2=>
    rw[if_neg c2]
    cases a:jL O A with
    |none=>rw[a]at e;cases e
    | some B=>
     rw[a]at e;obtain rfl:=oI e;have m:bq (bq V) B/\jL P (A.map (List.map h))=some (B.map (List.map h)):=by
      unfold jL at a⊢;rw[lM]
      cases u:bd (fk O) A.length 0 A with
      |none=>rw[u]at a;cases a
      | some C=>
       rw[u]at a;obtain⟨F,z⟩:=eB (VB:=bq (bq V)) (H:=List.map (List.map h)) (g:=fk P) (λB k S b e=>by
        unfold fk at e⊢;rw[ox H,lM]
        cases E:O.star (bS O B k k)with
        |none=>rw[E]at e;cases e
        | some s=>
         rw[E]at e;obtain⟨h7,h8⟩:=H.star (mS H b k k) E;rw[h8];refine eB (VB:=bq (bq V)) (H:=List.map (List.map h)) (λC i C' W e=>?_) _ _ _ _ (λx d=>by cases d) e;unfold iM at e⊢;rw[lM]
         cases w:bd (cw O B s k i) B.length 0 []with
         |none=>rw[w]at e;cases e
         | some r=>
          rw[w]at e;obtain rfl:=oI e;obtain⟨h9,f⟩:=eB (VB:=bq V) (H:=List.map h) (g:=cw P (B.map (List.map h)) (h s) k i) (λr j r' T e=>by
           unfold cw at e⊢;rw[ox H,ox H,ox H,H.xq (mS H b i k),H.xq (mS H b k j)];split at e
           ·next g=>rw[if_pos g];obtain rfl:=oI e;exact⟨T.snoc (mS H b i j),by rw[map_append];rfl⟩
           ·next g=>
            rw[if_neg g]
            cases D:O.times (bS O B i k) s with
            |none=>rw[D]at e;cases e
            | some p=>
             rw[D]at e;obtain⟨Z,U⟩:=H.times (mS H b i k) h7 D;rw[U];dsimp only at e⊢
             cases n:O.times p (bS O B k j)with
             |none=>rw[n]at e;cases e
             | some X=>
              rw[n]at e;obtain⟨u3,u4⟩:=H.times Z (mS H b k j) n;rw[u4];dsimp only at e⊢
              cases v:O.plus (bS O B i j) X with
              |none=>rw[v]at e;cases e
              |some c=>
               rw[v]at e;obtain⟨u5,u6⟩:=H.plus (mS H b i j) u3 v;rw[u6];obtain rfl:=oI e;exact⟨T.snoc u5,by rw[map_append];rfl⟩) _ _ _ _ (λx d=>by cases d) w
          have f:bd (cw P (B.map (List.map h)) (h s) k i) B.length 0 []=some (r.map h):=f;rw[f];exact⟨W.snoc h9,by rw[map_append];rfl⟩) _ _ _ _ h1 u
       rw[z];dsimp only at a⊢;refine eB (VB:=bq (bq V)) (H:=List.map (List.map h)) (λB i S b e=>?_) _ _ _ _ F a;unfold nW at e⊢;rw[ox H,<-H.one.2]
       cases G:O.plus O.one (bS O B i i)with
       |none=>rw[G]at e;cases e
       |some s=>
        rw[G]at e;obtain⟨N,Q⟩:=H.plus H.one.1 (mS H b i i) G;rw[Q];obtain rfl:=oI e;have hg:(B.map (List.map h)).getD i []=(B.getD i []).map h:=s8 (h:=List.map h) B i [];have L:bq V (B.getD i []):=oK b (λx d=>by cases d) i;exact⟨bq.set (V:=bq V) b (L.set N i) i,by rw[map_set,hg,map_set]⟩
     rw[m.2];exact⟨λS e=>by obtain rfl:=oI e;exact m.1,rfl⟩
  grind
theorem K8{v d:List α}(b:bq V v){B:Option (List (List α))}(a:∀C,B=some C->bq (bq V) C)(e:fS O v B=some d):bq V d/\fS P (v.map h) (B.map (List.map (List.map h)))=some (d.map h):=by
 cases B with
 |none=>obtain rfl:=oI e;exact⟨b,rfl⟩
 |some B=>
  have a:=a B rfl;have i:=pF H v.length;show _/\bd (λl q=>bd (fJ P (v.map h) (B.map (List.map h)) q) (v.map h).length 0 l) (v.map h).length 0 (bB P (v.map h).length)=_;rw[lM,<-i.2];refine eB (VB:=bq V) (H:=List.map h) (λl q f c e=>?_) _ _ _ _ i.1 e;refine eB (VB:=bq V) (H:=List.map h) (λl p f c e=>?_) _ _ _ _ c e;unfold fJ at e⊢;rw[H.getD,ox H,H.xq (H.at_ b q),H.xq (mS H a q p)];split at e
  ·grind
  ·next g=>rw[if_neg g];exact vO H c (H.at_ b q) (mS H a q p) e
theorem Ot{M:gb α}(n:BY V M){v:List α}{c:α}(i:bq V v)(e:oJ O M v=some c):V c/\oJ P (mapM h M) (v.map h)=some (h c):=by
 unfold oJ at e⊢;rw[lM]
 cases b:bd (jJ O M v) v.length 0 [O.zero]with
 |none=>grind
 | some l=>
  rw[b]at e;obtain rfl:=oI e;obtain⟨m,a⟩:=eB (VB:=bq V) (H:=List.map h) (g:=jJ P (mapM h M) (v.map h)) (λl q o j e=>by
   unfold jJ at e⊢;rw[yX,H.getD];show _/\(match (M.bL.getD q eh).fin.map h with|none=>some (l.map h)|some f=>gz P (l.map h) 0 (h (v.getD q O.zero)) f)=_
   cases d:(M.bL.getD q eh).fin with
   |none=>grind
   |some f=>rw[d]at e;exact vO H j (H.at_ i q) (WC n q d) e) _ _ _ _ (λx k=>by rw[mem_singleton.1 k];exact H.zero.1) b
  have a:bd (jJ P (mapM h M) (v.map h)) v.length 0 [h O.zero]=some (l.map h):=a;rw[H.zero.2]at a;rw[a];dsimp only;rw[H.getD];exact⟨H.at_ m 0,rfl⟩
omit H in
theorem yQ(T:List (List (List α)))(i j:Nat):dL (T.map (List.map (List.map h))) i j=(dL T i j).map h:=by grind[dL]
omit H in
theorem vW(T:List (List (List α)))(i j:Nat)(v:List α):fm (T.map (List.map (List.map h))) i j (v.map h)=(fm T i j v).map (List.map (List.map h)):=by grind[map_set,fm]
omit H in
theorem Gx{T:List (List (List α))}(b:bq (bq (bq V)) T)(i j:Nat):bq V (dL T i j):=
 oK (V:=bq V) (oK (V:=bq (bq V)) b (λx a=>by grind) i) (λx a=>by grind) j
omit H in
theorem Cd{T:List (List (List α))}(a:bq (bq (bq V)) T){v:List α}(b:bq V v)(i j:Nat):bq (bq (bq V)) (fm T i j v):=
 bq.set (V:=bq (bq V)) a (bq.set (V:=bq V) (oK (V:=bq (bq V)) a (λx c=>by grind) i) b j) i
theorem GI{M:gb α}(b:BY V M){x y:List Int}{w:α}(e:eC O M x y=some w):V w/\eC P (mapM h M) x y=some (h w):=by
 unfold eC at e⊢
 cases m:dU O M with
 |none=>grind
 | some B=>
  rw[m]at e;obtain⟨A,C⟩:=GC H b m;rw[C];dsimp only at e⊢;have f:=pF H M.bL.length;have t:(mapM h M).bL.length=M.bL.length:=lM _;have u:bq (bq (bq V)) (kd O M x y)/\kd P (mapM h M) x y=(kd O M x y).map (List.map (List.map h)):=by
   unfold kd;refine⟨Cd (bq.rep (bq.rep f.1 _) _) (f.1.set b.lead _) 0 0,?_⟩;rw[<-vW,map_set,List.map_replicate,List.map_replicate,f.2,t];rfl
  cases o:bd (qX O M B x y) (x.length+1) 0 (kd O M x y)with
  |none=>grind
  | some T=>
   rw[o]at e;obtain⟨G,I⟩:=eB (VB:=bq (bq (bq V))) (H:=List.map (List.map (List.map h))) (g:=qX P (mapM h M) (B.map (List.map (List.map h))) x y) (λT i n a e=>by
    unfold qX at e⊢;refine eB (VB:=bq (bq (bq V))) (H:=List.map (List.map (List.map h))) (λT j n a e=>?_) _ _ _ _ a e;unfold mT at e⊢;rw[yQ]
    cases c:fS O (dL T i j) B with
    |none=>rw[c]at e;cases e
    | some v=>
     rw[c]at e;obtain⟨q,F⟩:=K8 H (Gx a i j) A c;rw[F];dsimp only at e⊢;rw[vW];refine eB (VB:=bq (bq (bq V))) (H:=List.map (List.map (List.map h))) (λT k n a e=>?_) _ _ _ _ (Cd a q i j) e;unfold oL at e⊢;split at e
     ·next g=>rw[if_pos g];obtain rfl:=oI e;exact⟨a,rfl⟩
     ·next g=>
      rw[if_neg g]
      cases d:kN O M v (bO x i (k%2)) (bO y j (k/2))with
      |none=>rw[d]at e;cases e
      | some s=>
       rw[d]at e;obtain⟨D,z⟩:=Iu H b q d;rw[z];dsimp only at e⊢;rw[yQ]
       cases l:nB O (dL T (i+k%2) (j+k/2)) s with
       |none=>rw[l]at e;cases e
       |some r=>
        rw[l]at e;obtain⟨E,p⟩:=Ld H (Gx a _ _) D l;rw[p];dsimp only at e⊢;obtain rfl:=oI e;exact⟨Cd a E _ _,by rw[vW]⟩) _ _ _ _ u.1 o
   grind[yQ,Ot,Gx]
end
end
end Go.Num
end
section
namespace Go.Num
variable{n:Nat}
namespace bm
variable {K:Type} {S:bm K}
def dot(S:bm K)(u v:Nat->K)(n:Nat):K:=S.db (λi=>S.mul (u i) (v i)) n
theorem MQ{a:Nat->Nat->K}{c x:Nat->K}(d:∀i,i<n->S.le (S.add (c i) (S.db (λj=>S.mul (a i j) (x j)) n)) (x i))
  (e:∀y:Nat->K,(∀i,i<n->S.le (S.add (c i) (S.db (λj=>S.mul (a i j) (y j)) n)) (y i))->∀i,i<n->S.le (x i) (y i)):∀i,i<n->x i=KU S a n c i:=
 λi b=>S.G8 (e _ (λj _=>le_of_eq (MP a n c j).symm) i b) (F9 a d b)
theorem Q5{a b:Nat->Nat->K}{c d:Nat->K}(f:∀i j,i<n->j<n->a i j=b i j)(g:∀i,i<n->c i=d i):∀i,i<n->KU S a n c i=KU S b n d i:=by
 refine MQ (λi e=>?_) λy h i e=>F9 a (λi e=>?_) e
 all_goals grind[le_of_eq,MP,aX]
end bm
end Go.Num
end
section
namespace Go.Num
variable{p:List Int}
namespace bm
variable {K:Type} {S:bm K}
def ki{b:Type}(S:bm K)(f:b->K):List b->K
 |[]=>S.zero
 |a::l=>S.add (f a) (ki S f l)
theorem lb{b:Type}{f g:b->K}:∀{l:List b},(∀a∈l,f a=g a)->ki S f l=ki S g l
 |[],_=>rfl
 |a::l,h=>by
  show S.add _ _=S.add _ _;rw[h a (List.mem_cons_self ..),lb λx c=>h x (List.mem_cons_of_mem _ c)]
theorem DE{b:Type}(f g:b->K):∀l:List b,ki S (λa=>S.add (f a) (g a)) l=S.add (ki S f l) (ki S g l)
 |[]=>(S.zero_add _).symm
 |a::l=>by
  show S.add _ (ki S _ l)=S.add (S.add _ _) (S.add _ _);rw[DE f g l,abx]
theorem DG{b:Type}(c:K)(f:b->K):∀l:List b,ki S (λa=>S.mul c (f a)) l=S.mul c (ki S f l)
 |[]=>(mul_zero c).symm
 |a::l=>by
  show S.add _ (ki S _ l)=S.mul c (S.add _ _);rw[DG c f l,S.mul_add]
theorem DF{a c:Type}(g:c->a)(f:a->K):∀l:List c,ki S f (l.map g)=ki S (λb=>f (g b)) l
 |[]=>rfl
 |b::l=>by
  show S.add _ (ki S f (l.map g))=S.add _ _;rw[DF g f l]
theorem uO{b:Type}:∀l:List b,ki S (λ_=>S.zero) l=S.zero
 |[]=>rfl
 |a::l=>by
  show S.add _ (ki S _ l)=_;rw[uO l,S.zero_add]
end bm
structure K1(K:Type) where
 i:Int
 o:Int
 w:K
 t:Nat
structure m9(K:Type) where
 n:Nat
 fin:Nat->K
 arcs:Nat->List (K1 K)
def lH(s:Int)(x:List Int):Option (List Int):=if s=0 then some x else match x with
 |[]=>none
 |c::r=>if c=s then some r else none
namespace m9
open bm
variable {K:Type} (S:bm K) (M:m9 K)
def sil(q p:Nat):K:=ki S (λa=>if a.i=0/\a.o=0/\a.t=p then a.w else S.zero) (M.arcs q)
def go(W:List Int->List Int->Nat->K)(x y:List Int)(a:K1 K):K:=if a.i=0/\a.o=0 then S.zero else match lH a.i x,lH a.o y with
 |some c,some b=>S.mul a.w (W c b a.t)
 |_,_=>S.zero
def tail(W:List Int->List Int->Nat->K)(x y:List Int)(q:Nat):K:=S.add (if x=[]/\y=[]then M.fin q else S.zero) (ki S (go S W x y) (M.arcs q))
def HW:Nat->List Int->List Int->Nat->K
 |0,x,y=>KU S (sil S M) M.n (tail S M (λ_ _ _=>S.zero) x y)
 |f+1,x,y=>KU S (sil S M) M.n (tail S M (HW f) x y)
def val(x y:List Int):Nat->K:=HW S M (x.length+y.length) x y
variable {S M}
theorem NC{s:Int}{x:List Int}(h:lH s x=some p):p.length+(if s=0 then 0 else 1)=x.length:=by
 unfold lH at h
 grind
theorem Tc{W d:List Int->List Int->Nat->K}{x:List Int}{a:K1 K}(h:∀c b,c.length+b.length<x.length+p.length->W c b a.t=d c b a.t):go S W x p a=go S d x p a:=by
 unfold go;split
 ·rfl
 ·next g=>
  cases e:lH a.i x with
  |none=>rfl
  | some c=>
   cases f:lH a.o p with
   |none=>rfl
   |some b=>
    dsimp only;have i:=NC e;have j:=NC f
    grind
theorem sn{W W':List Int->List Int->Nat->K}{x:List Int}(h:∀b a,b.length+a.length<x.length+p.length->W b a=W' b a):tail S M W x p=tail S M W' x p:=by grind[lb,Tc,tail]
theorem HX:∀{f g:Nat}{x y:List Int},x.length+y.length<=f->x.length+y.length<=g->HW S M f x y=HW S M g x y
 |0,0,_,_,_,_=>rfl
 |0,g+1,x,y,h,_=>by grind[sn,HW]
 |f+1,0,x,y,_,h=>by grind[sn,HW]
 |f+1,g+1,x,y,c,e=>by
  show KU S _ _ (tail S M _ x y)=KU S _ _ (tail S M _ x y);rw[sn (W:=HW S M f) (W':=HW S M g) λd a b=>HX (by omega) (by omega)]
theorem abj(x y:List Int):val S M x y=KU S (sil S M) M.n (tail S M (val S M) x y):=by
 have h:val S M x y=HW S M (x.length+y.length+1) x y:=HX (Nat.le_refl _) (Nat.le_succ _);rw[h];show KU S _ _ (tail S M _ x y)=_;rw[sn (W':=val S M) λc a b=>HX (by omega) (Nat.le_refl _)]
end m9
end Go.Num
end
section
namespace Go.Num
variable{n:Nat}
namespace bm
variable {K:Type} {S:bm K}
theorem Gg{f:Nat->K}(h:∀i,i<n->f i=S.zero):S.db f n=S.zero:=by grind[aX,iL]
theorem Ag(f:Nat->K){a m n:Nat}(h:a+m<=n):S.db (λj=>if a<=j/\j<a+m then f j else S.zero) n=S.db (λp=>f (a+p)) m:=by
 rw[qN a (by omega:a<=n),Gg (λi b=>by rw[if_neg (by omega)]),S.zero_add];rw[qN m (by omega:m<=n-a)];rw[aX (f:=λi=>if a<=a+i/\a+i<a+m then f (a+i)else S.zero) (g:=λp=>f (a+p)) (n:=m) λi b=>by rw[if_pos (by omega)]];simp[Gg,if_neg,add_zero]
end bm
end Go.Num
end
section
namespace Go.Num
open bm
section
variable {K:Type} {S:bm K}
abbrev ady(K:Type):=List Int->List Int->K
end
variable{A:Type}
section
variable {K:Type}
noncomputable def aq(S:bm K):qb K:=⟨S.zero,S.one,λa=>@decide (a=S.zero) (Classical.propDecidable _),λa b=>some (S.add a b),λa b=>some (S.mul a b),λa=>some (S.star a)⟩
variable {S:bm K}
def vec(S:bm K)(l:List K)(p:Nat):K:=l.getD p S.zero
theorem uf{a:K}:(aq S).xq a=true↔a=S.zero:=@decide_eq_true_iff (a=S.zero) (Classical.propDecidable _)
theorem uk{l:List K}{t p:Nat}(a:K)(b:t<l.length):vec S (l.set t a) p=if p=t then a else vec S l p:=by
 unfold vec
 grind
theorem qB(n p:Nat):vec S (List.replicate n S.zero) p=S.zero:=by grind[vec]
theorem mu{f:List K->Nat->Option (List K)}{n:Nat}{c:Nat->Nat->K}:∀(m i:Nat)(l:List K),(∀(l:List K)(k:Nat),i<=k->k<i+m->l.length=n->∃a,f l k=some a/\a.length=n/\∀p,p<n->vec S a p=S.add (vec S l p) (c k p))->l.length=n->
  ∃a,bd f m i l=some a/\a.length=n/\∀p,p<n->vec S a p=S.add (vec S l p) (S.db (λj=>c (i+j) p) m)
 |0,i,l,_,b=>⟨l,rfl,b,λp _=>(add_zero _).symm⟩
 |m+1,i,l,d,b=>by
  obtain⟨q,h,o,g⟩:=d l i (Nat.le_refl _) (by omega) b;obtain⟨u,r,t,s⟩:=mu m (i+1) q (λl k w v=>d l k (by omega) (by omega)) o;refine⟨u,by unfold bd;rw[h];exact r,t,λp e=>?_⟩;rw[s p e,g p e,S.add_assoc];congr 1;rw[qN (S:=S) (f:=λj=>c (i+j) p) 1 (n:=m+1) (by omega)];congr 1
  ·exact(S.zero_add _).symm
  grind
theorem oN{a:Type}{f:List a->Nat->Option (List a)}{c:Nat->a}:∀(m i:Nat)(l:List a),(∀(l:List a)(k:Nat),i<=k->k<i+m->f l k=some (l++[c k]))->bd f m i l=some (l++(List.range m).map λj=>c (i+j))
 |0,i,l,_=>by simp[bd]
 |m+1,i,l,b=>by
  unfold bd;rw[b l i (Nat.le_refl _) (by omega)];show bd f m (i+1) _=_;rw[oN m (i+1) _ λl k d e=>b l k (by omega) (by omega),List.range_succ_eq_map,List.map_cons,List.map_map,append_assoc];congr 2;show c i::_=c (i+0)::_;congr 1;exact List.map_congr_left λj _=>by grind
theorem te{b:Type}(F:b->K)(d:b):∀l:List b,S.db (λk=>F (l.getD k d)) l.length=ki S F l
 |[]=>rfl
 |a::l=>by
  rw[List.length_cons,qN (S:=S) 1 (n:=l.length+1) (by omega)];show S.add (S.add S.zero (F a)) _=S.add (F a) _;rw[S.zero_add,<-te F d l]
  grind
theorem BZ{l:List K}{t:Nat}(a b:K)(d:t<l.length):∃c,gz (aq S) l t a b=some c/\c.length=l.length/\∀p,vec S c p=S.add (vec S l p) (if t=p then S.mul a b else S.zero):=by
 refine⟨l.set t (S.add (vec S l t) (S.mul a b)),rfl,length_set,λp=>?_⟩;rw[uk _ d];by_cases e:t=p
 ·grind
 ·rw[if_neg λh=>e h.symm,if_neg e,add_zero]
def gM(i o:Int)(p:Nat)(a:jk K):Prop:=a.i=i/\a.o=o/\a.t=p
instance (i o:Int) (p:Nat) (a:jk K):Decidable (gM i o p a):=inferInstanceAs (Decidable (_/\_/\_))
def bE(M:gb K)(q:Nat):List (jk K):=(M.bL.getD q eh).arcs
def kM(M:gb K):Prop:=∀s∈M.bL,∀a∈s.arcs,a.t<M.bL.length
theorem kM.at_{M:gb K}(g:kM M){q k:Nat}(a:k<(bE M q).length):((bE M q).getD k (ck (aq S))).t<M.bL.length:=by
 unfold bE at*;rcases tc (M:=M) q with e|e
 ·rw[e]at a;exact absurd a (Nat.not_lt_zero _)
 ·rw[gD,gE a];exact g _ e _ (getElem_mem a)
theorem RL{M:gb K}(g:kM M)(v:List K)(i o:Int):∃l,kN (aq S) M v i o=some l/\l.length=M.bL.length/\∀p,p<M.bL.length->vec S l p=S.db (λq=>ki S (λa=>if gM i o p a then S.mul (vec S v q) a.w else S.zero) (bE M q)) M.bL.length:=by
 obtain⟨l,y,A,w⟩:=mu (S:=S) (f:=qx (aq S) M v i o) (n:=M.bL.length) (c:=λq p=>ki S (λa=>if gM i o p a then S.mul (vec S v q) a.w else S.zero) (bE M q)) M.bL.length 0 (bB (aq S) M.bL.length) (λl q _ _ b=>by
  unfold qx;have t:(aq S).xq (v.getD q (aq S).zero)=true↔vec S v q=S.zero:=uf;by_cases r:vec S v q=S.zero
  ·rw[if_pos (t.2 r)];refine⟨l,rfl,b,λp _=>?_⟩;rw[r,lb (g:=λ_=>S.zero) λa _=>by split;exact S.zero_mul _;rfl,uO,add_zero]
  ·rw[if_neg λh=>r (t.1 h)];obtain⟨m,u,C,z⟩:=mu (S:=S) (f:=jM (aq S) i o (vec S v q) (bE M q)) (n:=M.bL.length) (c:=λk p=>if gM i o p ((bE M q).getD k (ck (aq S)))then S.mul (vec S v q) ((bE M q).getD k (ck (aq S))).w else S.zero) (bE M q).length 0 l (λl k _ F b=>by
    unfold jM;by_cases d:((bE M q).getD k (ck (aq S))).i≠i\/((bE M q).getD k (ck (aq S))).o≠o
    ·rw[if_pos d];exact⟨l,rfl,b,λp _=>by rw[if_neg λh=>d.elim (λx=>x h.1) (λx=>x h.2.1),add_zero]⟩
    ·rw[if_neg d];obtain⟨m,D,B,E⟩:=BZ (S:=S) (l:=l) (vec S v q) ((bE M q).getD k (ck (aq S))).w (by rw[b];exact g.at_ (S:=S) (q:=q) (k:=k) (by omega));refine⟨m,D,by rw[B,b],λp _=>?_⟩;rw[E p];congr 1;by_cases e:((bE M q).getD k (ck (aq S))).t=p
     ·rw[if_pos e,if_pos];exact⟨Classical.byContradiction λx=>d (.inl x),Classical.byContradiction λx=>d (.inr x),e⟩
     ·rw[if_neg e,if_neg λh=>e h.2.2]) b
   refine⟨m,u,C,λp s=>?_⟩;rw[z p s];congr 1;have:=te (S:=S) (λa=>if gM i o p a then S.mul (vec S v q) a.w else S.zero) (ck (aq S)) (bE M q);rw[<-this];exact aX λj _=>by rw[Nat.zero_add]) length_replicate
 refine⟨l,y,A,λp s=>?_⟩;rw[w p s];have:vec S (bB (aq S) M.bL.length) p=S.zero:=qB _ _;rw[this,S.zero_add]
 grind
theorem mn(c:Nat->A)(d:A){n i:Nat}(h:i<n):((List.range n).map c).getD i d=c i:=by grind
theorem WD(a b:List K):∃l,nB (aq S) a b=some l/\l.length=a.length/\∀p,p<a.length->vec S l p=S.add (vec S a p) (vec S b p):=by
 have h:=oN (f:=wT (aq S) a b) (c:=λi=>S.add (vec S a i) (vec S b i)) a.length 0 [] (λl k _ _=>rfl);refine⟨_,h,by simp,λp d=>?_⟩
 simp_all[vec]
def eH(S:bm K)(M:gb K):m9 K:=⟨M.bL.length,λq=>(M.bL.getD q eh).fin.getD S.zero,λq=>(bE M q).map λa=>⟨a.i,a.o,a.w,a.t⟩⟩
def yW(S:bm K)(M:gb K)(q p:Nat):K:=ki S (λa=>if gM 0 0 p a then a.w else S.zero) (bE M q)
theorem It(M:gb K)(q p:Nat):m9.sil S (eH S M) q p=yW S M q p:=by
 show ki S _ ((bE M q).map _)=_;rw[DF];rfl
theorem Gw(B:List (List K))(i j:Nat):bS (aq S) B i j=vec S (B.getD i []) j:=rfl
theorem WA{M:gb K}(g:kM M):∃A,bd (gJ (aq S) M) M.bL.length 0 []=some A/\A.length=M.bL.length/\∀q p,q<M.bL.length->p<M.bL.length->bS (aq S) A q p=yW S M q p:=by
 have e:∀q,∃r,bd (eX (aq S) (bE M q)) (bE M q).length 0 (bB (aq S) M.bL.length)=some r/\∀p,p<M.bL.length->vec S r p=yW S M q p:=λq=>by
  obtain⟨o,m,y,t⟩:=mu (S:=S) (f:=eX (aq S) (bE M q)) (n:=M.bL.length) (c:=λk p=>if gM 0 0 p ((bE M q).getD k (ck (aq S)))then((bE M q).getD k (ck (aq S))).w else S.zero) (bE M q).length 0 (bB (aq S) M.bL.length) (λl k _ w i=>by
   unfold eX;by_cases d:((bE M q).getD k (ck (aq S))).i≠0\/((bE M q).getD k (ck (aq S))).o≠0
   ·rw[if_pos d];exact⟨l,rfl,i,λp _=>by rw[if_neg λh=>d.elim (λx=>x h.1) (λx=>x h.2.1),add_zero]⟩
   ·rw[if_neg d];have v:((bE M q).getD k (ck (aq S))).t<l.length:=by rw[i];exact g.at_ (S:=S) (q:=q) (k:=k) (by omega)
    refine⟨_,rfl,by rw[length_set,i],λp _=>?_⟩;have:=uk (S:=S) (p:=p) (S.add (vec S l ((bE M q).getD k (ck (aq S))).t) ((bE M q).getD k (ck (aq S))).w) v;refine this.trans ?_;by_cases b:p=((bE M q).getD k (ck (aq S))).t
    ·rw[if_pos b,if_pos,b];exact⟨Classical.byContradiction λx=>d (.inl x),Classical.byContradiction λx=>d (.inr x),b.symm⟩
    ·rw[if_neg b,if_neg λh=>b h.2.2.symm,add_zero]) length_replicate
  refine⟨o,m,λp b=>?_⟩;rw[t p b];have u:vec S (bB (aq S) M.bL.length) p=S.zero:=qB _ _;rw[u,S.zero_add];have:=te (S:=S) (λa=>if gM 0 0 p a then a.w else S.zero) (ck (aq S)) (bE M q);unfold yW;rw[<-this];exact aX λj _=>by rw[Nat.zero_add]
 have h:=oN (f:=gJ (aq S) M) (c:=λq=>(e q).choose) M.bL.length 0 [] (λl k _ _=>by
  unfold gJ;have:=(e k).choose_spec.1;unfold bE at this;rw[this];rfl)
 refine⟨_,h,by simp,λq p s b=>?_⟩;rw[Gw,List.nil_append,mn _ _ s,Nat.zero_add]
 grind
theorem GB(B:List (List K))(k:Nat)(a:Nat->Nat->K)(m:k<B.length)(g:∀i j,i<B.length->j<B.length->bS (aq S) B i j=elim S a k i j):∃C,fk (aq S) B k=some C/\C.length=B.length/\∀i j,i<B.length->j<B.length->bS (aq S) C i j=elim S a (k+1) i j:=by
 have n:∀i j,i<B.length->j<B.length->∀r,cw (aq S) B (S.star (bS (aq S) B k k)) k i r j=some (r++[elim S a (k+1) i j]):=λi j b d r=>by
  unfold cw;have e:elim S a (k+1) i j=S.add (bS (aq S) B i j) (S.mul (S.mul (bS (aq S) B i k) (S.star (bS (aq S) B k k))) (bS (aq S) B k j)):=by
   rw[g i j b d,g i k b m,g k k m m,g k j m d];rfl
  by_cases c:((aq S).xq (bS (aq S) B i k)||(aq S).xq (bS (aq S) B k j))=true
  ·rw[if_pos c,e];congr 3;rw[Bool.or_eq_true,uf,uf]at c;rcases c with c|c
   ·rw[c,S.zero_mul,S.zero_mul,add_zero]
   grind[mul_zero,add_zero]
  ·rw[if_neg c,e];rfl
 have o:∀i,i<B.length->bd (cw (aq S) B (S.star (bS (aq S) B k k)) k i) B.length 0 []=some ((List.range B.length).map λj=>elim S a (k+1) i j):=λi b=>by
  have:=oN (f:=cw (aq S) B (S.star (bS (aq S) B k k)) k i) (c:=λj=>elim S a (k+1) i j) B.length 0 [] (λl j _ d=>n i j b (by omega) l)
  grind
 have h:=oN (f:=iM (aq S) B (S.star (bS (aq S) B k k)) k) (c:=λi=>(List.range B.length).map λj=>elim S a (k+1) i j) B.length 0 [] (λl i _ b=>by grind[iM]);refine⟨_,h,by simp,λi j b d=>?_⟩;rw[Gw,List.nil_append,mn _ _ b,Nat.zero_add];exact mn _ _ d
theorem Il(a:Nat->Nat->K):∀(m k:Nat)(B:List (List K)),k+m=B.length->(∀i j,i<B.length->j<B.length->bS (aq S) B i j=elim S a k i j)->∃C,bd (fk (aq S)) m k B=some C/\C.length=B.length/\∀i j,i<B.length->j<B.length->bS (aq S) C i j=elim S a (k+m) i j
 |0,k,B,_,b=>⟨B,rfl,rfl,b⟩
 |m+1,k,B,d,b=>by
  obtain⟨C,e,f,c⟩:=GB B k a (by omega) b;obtain⟨D,g,o,l⟩:=Il a m (k+1) C (by omega) (λi j h n=>c i j (by omega) (by omega))
  grind[bd]
theorem Ie:∀(m k:Nat)(B:List (List K)),k+m=B.length->(∀i,i<B.length->(B.getD i []).length=B.length)->∃C,bd (nW (aq S)) m k B=some C/\∀i j,i<B.length->j<B.length->bS (aq S) C i j=if i=j/\k<=i then S.add S.one (bS (aq S) B i j)else bS (aq S) B i j
 |0,k,B,f,b=>⟨B,rfl,λi j a d=>by grind⟩
 | m+1,k,B,f,b=>by
  have n:k<B.length:=by omega
  obtain⟨C,g,l⟩:=Ie m (k+1) (B.set k ((B.getD k []).set k (S.add S.one (bS (aq S) B k k)))) (by rw[length_set];omega) (λi a=>by
   rw[length_set]at a;rw[gD,List.getElem?_set,length_set];by_cases e:k=i
   ·subst e;rw[if_pos rfl,if_pos a,getD_some,length_set];exact b k a
   ·rw[if_neg e,<-gD];exact b i a)
  refine⟨C,g,λi j a d=>?_⟩;rw[l i j (by rw[length_set];exact a) (by rw[length_set];exact d)];have e:bS (aq S) (B.set k ((B.getD k []).set k (S.add S.one (bS (aq S) B k k)))) i j=if i=k/\j=k then S.add S.one (bS (aq S) B k k)else bS (aq S) B i j:=by
   rw[Gw,gD,List.getElem?_set];by_cases e:k=i
   ·subst e;rw[if_pos rfl,if_pos a,getD_some,uk _ (by rw[b k a];exact a)];by_cases c:j=k
    ·rw[if_pos c,if_pos ⟨rfl,c⟩]
    ·rw[if_neg c,if_neg λh=>c h.2];rfl
   ·rw[if_neg e,<-gD,if_neg λh=>e h.1.symm];rfl
  grind
theorem Cf:∀{m k:Nat}{B C:List (List K)},bd (fk (aq S)) m k B=some C->(∀i,i<B.length->(B.getD i []).length=B.length)->∀i,i<C.length->(C.getD i []).length=C.length
 |0,k,B,C,h,y=>by obtain rfl:=oI h;omega
 | m+1,k,B,C,h,y=>by
  unfold bd at h
  cases e:fk (aq S) B k with
  |none=>grind
  | some D=>
   rw[e]at h;refine Cf h ?_;have t:∀i r j,∃c,cw (aq S) B (S.star (bS (aq S) B k k)) k i r j=some (r++[c]):=λi r j=>by
    unfold cw;split
    ·exact⟨_,rfl⟩
    ·exact⟨_,rfl⟩
   have w:∀i n d (r:List K),∃b,bd (cw (aq S) B (S.star (bS (aq S) B k k)) k i) n d r=some b/\b.length=r.length+n:=λi n=>by
    induction n with
    |zero=>exact λd r=>⟨r,rfl,rfl⟩
    |succ n s=>
     intro d r;obtain⟨c,t⟩:=t i r d;obtain⟨b,g,l⟩:=s (d+1) (r++[c]);exact⟨b,by unfold bd;rw[t];exact g,by rw[l];simp;omega⟩
   have o:∀n f (E:List (List K)),(∀x∈E,x.length=B.length)->∃a,bd (iM (aq S) B (S.star (bS (aq S) B k k)) k) n f E=some a/\a.length=E.length+n/\∀x∈a,x.length=B.length:=λn=>by
    induction n with
    |zero=>exact λf E p=>⟨E,rfl,rfl,p⟩
    | succ n s=>
     intro f E p;obtain⟨b,g,l⟩:=w f B.length 0 [];obtain⟨a,u,v,z⟩:=s (f+1) (E++[b]) (λx q=>by
      rcases mem_append.1 q with h|h
      ·exact p x h
      ·rw[mem_singleton.1 h,l];simp)
     exact⟨a,by unfold bd iM;rw[g];exact u,by rw[v];simp;omega,z⟩
   obtain⟨a,g,l,u⟩:=o B.length 0 [] (λx q=>by cases q);have v:fk (aq S) B k=some a:=g
   grind
theorem RK{A:List (List K)}(a:∀i,i<A.length->(A.getD i []).length=A.length):∃B,jL (aq S) A=some B/\∀i j,i<A.length->j<A.length->bS (aq S) B i j=if i=j then S.add S.one (elim S (bS (aq S) A) A.length i j)else elim S (bS (aq S) A) A.length i j:=by
 obtain⟨C,b,e,d⟩:=Il (S:=S) (bS (aq S) A) A.length 0 A (Nat.zero_add _) (λi j _ _=>rfl);have c:=Cf b a;obtain⟨B,g,f⟩:=Ie (S:=S) A.length 0 C (by omega) c
 simp_all[jL]
end
variable{p:List Int}
section
variable {K:Type} {S:bm K}
theorem RH{v:List K}{B:List (List K)}:∃l,fS (aq S) v (some B)=some l/\l.length=v.length/\∀p,p<v.length->vec S l p=S.db (λq=>S.mul (vec S v q) (bS (aq S) B q p)) v.length:=by
 obtain⟨l,m,r,i⟩:=mu (S:=S) (f:=λl q=>bd (fJ (aq S) v B q) v.length 0 l) (n:=v.length) (c:=λq p=>S.mul (vec S v q) (bS (aq S) B q p)) v.length 0 (bB (aq S) v.length) (λl q _ _ a=>by
  obtain⟨b,h,w,o⟩:=mu (S:=S) (f:=fJ (aq S) v B q) (n:=v.length) (c:=λk p=>if k=p then S.mul (vec S v q) (bS (aq S) B q k)else S.zero) v.length 0 l (λl k _ z a=>by
   unfold fJ;by_cases c:((aq S).xq (v.getD q (aq S).zero)||(aq S).xq (bS (aq S) B q k))=true
   ·rw[if_pos c];refine⟨l,rfl,a,λp _=>?_⟩;have u:S.mul (vec S v q) (bS (aq S) B q k)=S.zero:=by
     rw[Bool.or_eq_true,uf,uf]at c;rcases c with c|c
     ·have c:vec S v q=S.zero:=c;rw[c,S.zero_mul]
     ·have c:bS (aq S) B q k=S.zero:=c;rw[c,mul_zero]
    rw[u];split<;>rw[add_zero]
   ·rw[if_neg c];obtain⟨b,x,s,y⟩:=BZ (S:=S) (l:=l) (t:=k) (vec S v q) (bS (aq S) B q k) (by omega);exact⟨b,x,by rw[s,a],λp _=>y p⟩) a
  refine⟨b,h,w,λp d=>?_⟩;rw[o p d];congr 1;rw[aX (g:=λj=>if p<=j/\j<p+1 then S.mul (vec S v q) (bS (aq S) B q j)else S.zero) λj _=>by
   rw[Nat.zero_add];by_cases e:j=p
   ·rw[if_pos e,if_pos (by omega)]
   ·rw[if_neg e,if_neg (by omega)]]
  rw[Ag (λj=>S.mul (vec S v q) (bS (aq S) B q j)) (by omega:p+1<=v.length)];exact S.zero_add _) length_replicate
 refine⟨l,m,r,λp d=>?_⟩;rw[i p d];have:vec S (bB (aq S) v.length) p=S.zero:=qB _ _;rw[this,S.zero_add]
 grind
theorem Wz(M:gb K)(v:List K)(i:v.length=M.bL.length):oJ (aq S) M v=some (dot S (vec S v) (eH S M).fin v.length):=by
 obtain⟨l,b,j,d⟩:=mu (S:=S) (f:=jJ (aq S) M v) (n:=1) (c:=λq p=>S.mul (vec S v q) ((eH S M).fin q)) v.length 0 [S.zero] (λl q _ _ e=>by
  unfold jJ;show ∃a,(match (M.bL.getD q eh).fin with|none=>some l|some f=>gz (aq S) l 0 (v.getD q (aq S).zero) f)=some a/\a.length=1/\∀p,p<1->vec S a p=S.add (vec S l p) (S.mul (vec S v q) ((M.bL.getD q eh).fin.getD S.zero))
  cases (M.bL.getD q eh).fin with
  |none=>exact⟨l,rfl,e,λp _=>by show _=S.add _ (S.mul _ S.zero);rw[mul_zero,add_zero]⟩
  |some f=>
   obtain⟨a,g,k,h⟩:=BZ (S:=S) (l:=l) (t:=0) (vec S v q) f (by omega);refine⟨a,g,by omega,λp m=>?_⟩;rw[h p,if_pos (by omega)];rfl) rfl
 unfold oJ;have b:bd (jJ (aq S) M v) v.length 0 [(aq S).zero]=some l:=b;rw[b];show some (vec S l 0)=_;rw[d 0 (by omega)];show some (S.add S.zero _)=_;rw[S.zero_add]
 simp_all[dot]
noncomputable def Gv(S:bm K)(M:gb K)(x y:List Int)(i j q:Nat):K:=m9.val S (eH S M) (x.drop i) (y.drop j) q
def iY(S:bm K)(M:gb K)(x y:List Int)(i j q:Nat):K:=m9.tail S (eH S M) (m9.val S (eH S M)) (x.drop i) (y.drop j) q
theorem La{M:gb K}(g:kM M){r:Option (List (List K))}(f:dU (aq S) M=some r):∀v:List K,v.length=M.bL.length->∃l,fS (aq S) v r=some l/\l.length=M.bL.length/\∀x y i j,dot S (vec S v) (Gv S M x y i j) M.bL.length=dot S (vec S l) (iY S M x y i j) M.bL.length:=by
 obtain⟨A,P,Q,R⟩:=WA (S:=S) g;unfold dU at f;rw[P]at f;dsimp only at f;have O:∀x y i j,Gv S M x y i j=KU S (m9.sil S (eH S M)) M.bL.length (iY S M x y i j):=λx y i j=>m9.abj (S:=S) (M:=eH S M) (x.drop i) (y.drop j);split at f
 ·split at f
  ·grind
  ·have T:∀i,i<A.length->(A.getD i []).length=A.length:=by
    have L:∀(m k:Nat)(E t:List (List K)),(∀x∈E,x.length=M.bL.length)->bd (gJ (aq S) M) m k E=some t->∀x∈t,x.length=M.bL.length:=λm=>by
     induction m with
     |zero=>intro k E t G e;obtain rfl:=oI e;exact G
     | succ m I=>
      intro k E t G e;unfold bd at e
      cases o:gJ (aq S) M E k with
      |none=>rw[o]at e;cases e
      | some F=>
       rw[o]at e;refine I (k+1) F t ?_ e;unfold gJ at o
       cases C:bd (eX (aq S) (M.bL.getD k eh).arcs) (M.bL.getD k eh).arcs.length 0 (bB (aq S) M.bL.length)with
       |none=>rw[C]at o;cases o
       | some r=>
        rw[C]at o;obtain rfl:=oI o;have f:∀(m D:Nat)(l u:List K),bd (eX (aq S) (M.bL.getD k eh).arcs) m D l=some u->u.length=l.length:=λm=>by
         induction m with
         |zero=>intro D l u e;obtain rfl:=oI e;rfl
         | succ m I=>
          intro D l u e;unfold bd at e
          cases s:eX (aq S) (M.bL.getD k eh).arcs l D with
          |none=>rw[s]at e;cases e
          |some l2=>
           rw[s]at e;rw[I _ _ _ e];unfold eX at s;split at s
           ·obtain rfl:=oI s;rfl
           ·have s:some (l.set _ _)=some l2:=s;obtain rfl:=oI s;exact length_set
        intro x H;rcases mem_append.1 H with h|h
        ·exact G x h
        ·rw[mem_singleton.1 h,f _ _ _ _ C];exact length_replicate
    intro i z;rw[gD,gE z,getD_some,Q];exact L _ _ _ _ (λx H=>by cases H) P _ (getElem_mem z)
   obtain⟨B,W,h5⟩:=RK (S:=S) T;rw[W]at f;obtain rfl:=oI f;intro v N;obtain⟨l,o,C,s⟩:=RH (S:=S) (v:=v) (B:=B);refine⟨l,o,by omega,λx y i j=>?_⟩;rw[O];have U:∀q,q<M.bL.length->KU S (m9.sil S (eH S M)) M.bL.length (iY S M x y i j) q=S.db (λp=>S.mul (bS (aq S) B q p) (iY S M x y i j p)) M.bL.length:=λq w=>by
    have Z:=Q5 (S:=S) (a:=m9.sil S (eH S M)) (b:=bS (aq S) A) (n:=M.bL.length) (c:=iY S M x y i j) (d:=iY S M x y i j) (λi j z Y=>by rw[R i j z Y,It]) (λ_ _=>rfl) q w;rw[Z];have X:∀p,p<M.bL.length->S.mul (bS (aq S) B q p) (iY S M x y i j p)=S.add (if q<=p/\p<q+1 then iY S M x y i j p else S.zero) (S.mul (elim S (bS (aq S) A) M.bL.length q p) (iY S M x y i j p)):=λp hp=>by
     rw[h5 q p (by omega) (by omega),Q];by_cases e:q=p
     ·rw[if_pos e,if_pos (by omega),add_mul,S.one_mul]
     ·rw[if_neg e,if_neg (by omega),S.zero_add]
    rw[aX X,jU,Ag (iY S M x y i j) (by omega:q+1<=M.bL.length)];show S.add (iY S M x y i j q) _=S.add (S.add S.zero (iY S M x y i j (q+0))) _;rw[S.zero_add];rfl
   unfold dot;rw[aX λq w=>by rw[U q w]];rw[aX (g:=λq=>S.db (λp=>S.mul (S.mul (vec S v q) (bS (aq S) B q p)) (iY S M x y i j p)) M.bL.length) λq _=>by
    rw[<-yy];exact aX λp _=>(S.mul_assoc _ _ _).symm]
   rw[yz]
   grind[aX,uP]
 ·next J=>
  obtain rfl:=oI f;intro v N;refine⟨v,rfl,N,λx y i j=>?_⟩;unfold dot;refine aX λq w=>?_;congr 1;rw[O,MP];rw[aX (g:=λ_=>S.zero) λl _=>by
   rw[It];have:yW S M q l=S.zero:=by
    unfold yW;rw[lb (g:=λ_=>S.zero) λa V=>?_,uO];rw[if_neg];rintro⟨c1,c2,_⟩;refine J ?_;unfold oG;refine List.any_eq_true.2 ⟨M.bL.getD q eh,?_,List.any_eq_true.2 ⟨a,V,by grind⟩⟩;rcases tc (M:=M) q with e|e
    ·grind
    ·exact e
   rw[this,S.zero_mul]]
  rw[iL,add_zero]
theorem B8{x:List Int}(c:∀s∈x,s≠0)(i:Nat)(s:Int)(b:Nat)(d:b<=1)(g:i+b<=x.length)(a:s=bO x i b):lH s (x.drop i)=some (x.drop (i+b)):=by
 unfold bO at a;by_cases e:b=1
 ·subst e;rw[if_pos rfl]at a;have f:x.drop i=x.getD i 0::x.drop (i+1):=by
   rw[gD,gE (by omega)];exact drop_eq_getElem_cons (by omega)
  have h:s≠0:=by
   rw[a,gD,gE (by omega)];exact c _ (getElem_mem _)
  simp_all[lH]
 ·rw[if_neg e]at a;obtain rfl:b=0:=by omega
  simp_all[lH]
theorem ue{x:List Int}(f:∀s∈x,s≠0){i:Nat}(g:i<=x.length){s:Int}(h:lH s (x.drop i)=some p):∃b,b<=1/\i+b<=x.length/\s=bO x i b/\p=x.drop (i+b)/\(b=0↔s=0):=by
 unfold lH at h;split at h
 ·next e=>
  obtain rfl:=oI h;exact⟨0,by omega,by omega,by simp_all[bO],rfl,⟨λ_=>e,λ_=>rfl⟩⟩
 ·next e=>
  by_cases a:i<x.length
  ·have d:x.drop i=x.getD i 0::x.drop (i+1):=by
    rw[gD,gE a];exact drop_eq_getElem_cons a
   rw[d]at h;dsimp only at h;split at h
   ·next c=>
    obtain rfl:=oI h;exact⟨1,by omega,by omega,by unfold bO;rw[if_pos rfl];exact c.symm,rfl,⟨λh=>by omega,λh=>absurd h e⟩⟩
   ·cases h
  grind
theorem abu{b c:Nat}{P:Prop}(a:b<=1)(f:c<=1)(d:b=0↔P)(e:c=0↔P):b=c:=by grind
noncomputable def jX(S:bm K)(M:gb K)(x y:List Int)(i j:Nat)(a:jk K)(k:Nat):K:=
 if x.length<i+k%2\/y.length<j+k/2 then S.zero else if a.i=bO x i (k%2)/\a.o=bO y j (k/2)then S.mul a.w (Gv S M x y (i+k%2) (j+k/2) a.t)else S.zero
theorem go_eq{M:gb K}{x:List Int}(m:∀s∈x,s≠0)(t:∀s∈p,s≠0){i j:Nat}(r:i<=x.length)(u:j<=p.length)(a:jk K):m9.go S (m9.val S (eH S M)) (x.drop i) (p.drop j) ⟨a.i,a.o,a.w,a.t⟩=S.db (λk=>jX S M x p i j a (1+k)) 3:=by
 have F:∀{x:List Int}{i b:Nat},(∀s∈x,s≠0)->b<=1->i+b<=x.length->(bO x i b=0↔b=0):=λ{x i b} m L r=>by
  unfold bO
  grind
 have J:∀k,k=1\/k=2\/k=3->jX S M x p i j a k≠S.zero->i+k%2<=x.length/\j+k/2<=p.length/\a.i=bO x i (k%2)/\a.o=bO p j (k/2):=λk _ h=>by simp_all[jX]
 show(if a.i=0/\a.o=0 then S.zero else match lH a.i (x.drop i),lH a.o (p.drop j)with|some l,some g=>S.mul a.w (m9.val S (eH S M) l g a.t)|_,_=>S.zero)=S.add (S.add (S.add S.zero (jX S M x p i j a 1)) (jX S M x p i j a 2)) (jX S M x p i j a 3);rw[S.zero_add];have d:∀k,k=1\/k=2\/k=3->¬((k%2=0↔a.i=0)/\(k/2=0↔a.o=0))->jX S M x p i j a k=S.zero:=λk C N=>Classical.byContradiction λc=>by grind
 have e:∀k,k=1\/k=2\/k=3->(k%2=0↔a.i=0)->(k/2=0↔a.o=0)->jX S M x p i j a k=(match lH a.i (x.drop i),lH a.o (p.drop j)with|some l,some g=>S.mul a.w (m9.val S (eH S M) l g a.t)|_,_=>S.zero):=λk C O P=>by
  unfold jX;split
  ·next c=>
   cases n:lH a.i (x.drop i)with
   |none=>rfl
   | some l=>
    cases o:lH a.o (p.drop j)with
    |none=>rfl
    |some g=>
     obtain⟨b,G,w,H,E,y⟩:=ue m r n;obtain⟨B,D,z,v,A,I⟩:=ue t u o;omega
  ·next c=>
   split
   ·next f=>
    rw[B8 m i _ _ (by omega) (by omega) f.1,B8 t j _ _ (by omega) (by omega) f.2];rfl
   ·next f=>
    cases n:lH a.i (x.drop i)with
    |none=>rfl
    | some l=>
     cases o:lH a.o (p.drop j)with
     |none=>rfl
     |some g=>
      obtain⟨b,G,w,H,E,y⟩:=ue m r n;obtain⟨B,D,z,v,A,I⟩:=ue t u o
      grind
 by_cases q:a.i=0
 ·by_cases f:a.o=0
  ·rw[if_pos ⟨q,f⟩,d 1 (by omega) (by omega),d 2 (by omega) (by omega),d 3 (by omega) (by omega),S.zero_add,S.zero_add]
  ·rw[if_neg λh=>f h.2,d 1 (by omega) (by omega),e 2 (by omega) (by omega) (by omega),d 3 (by omega) (by omega),S.zero_add,add_zero]
 ·by_cases f:a.o=0
  ·rw[if_neg λh=>q h.1,e 1 (by omega) (by omega) (by omega),d 2 (by omega) (by omega),d 3 (by omega) (by omega),add_zero,add_zero]
  ·rw[if_neg λh=>q h.1,d 1 (by omega) (by omega),d 2 (by omega) (by omega),e 3 (by omega) (by omega) (by omega),S.zero_add,S.zero_add]
end
variable{i:Nat}{m:Nat}{n:Nat}{j:Nat}
section
variable {K:Type} {S:bm K}
structure oE(M:gb K)(x y:List Int)(T:List (List (List K))):Prop where
 len:T.length=x.length+1
 row:∀i,i<=x.length->(T.getD i []).length=y.length+1
 cell:∀i j,i<=x.length->j<=y.length->(dL T i j).length=M.bL.length
theorem vR{l:List A}(a:i<l.length)(v d:A)(j:Nat):(l.set i v).getD j d=if j=i then v else l.getD j d:=by grind
section
variable {M:gb K} {x y:List Int} {T:List (List (List K))}
theorem oE.zj(s:oE M x y T){i j:Nat}(d:i<=x.length)(f:j<=y.length)(v:List K)(a b:Nat):dL (fm T i j v) a b=if a=i/\b=j then v else dL T a b:=by
 unfold dL fm;rw[vR (by rw[s.len];omega)];by_cases e:a=i
 ·subst e;rw[if_pos rfl,vR (by rw[s.row a d];omega)];by_cases c:b=j
  ·rw[if_pos c,if_pos ⟨rfl,c⟩]
  ·rw[if_neg c,if_neg λh=>c h.2]
 grind
theorem oE.set(s:oE M x y T){i j:Nat}(d:i<=x.length)(f:j<=y.length){v:List K}(g:v.length=M.bL.length):oE M x y (fm T i j v):=by
 refine⟨by unfold fm;rw[length_set];exact s.len,λa c=>?_,λa b c e=>?_⟩
 ·unfold fm;rw[vR (by rw[s.len];omega)];split
  ·rw[length_set];exact s.row i d
  ·exact s.row a c
 ·rw[s.zj d f];split
  ·omega
  ·exact s.cell a b c e
noncomputable def yP(S:bm K)(M:gb K)(x y:List Int)(T:List (List (List K)))(a b:Nat):K:=dot S (vec S (dL T a b)) (Gv S M x y a b) M.bL.length
noncomputable def iG(S:bm K)(M:gb K)(x y:List Int)(T:List (List (List K)))(i j:Nat):K:=S.db (λa=>S.db (λb=>if i<a\/(a=i/\j<=b)then yP S M x y T a b else S.zero) (y.length+1)) (x.length+1)
theorem q7{p q:Nat}(i:p<m)(f:q<n)(c:K):S.db (λa=>S.db (λb=>if a=p/\b=q then c else S.zero) n) m=c:=by
 have d:∀a,S.db (λb=>if a=p/\b=q then c else S.zero) n=if p<=a/\a<p+1 then c else S.zero:=λa=>by
  by_cases e:a=p
  ·rw[if_pos (by omega),aX (g:=λb=>if q<=b/\b<q+1 then c else S.zero) λb _=>by grind];rw[Ag (λ_=>c) (by omega:q+1<=n)];exact S.zero_add c
  ·rw[if_neg (by omega),aX (g:=λ_=>S.zero) λb _=>if_neg λh=>e h.1,iL]
 rw[aX λa _=>d a,Ag (λ_=>c) (by omega:p+1<=m)];exact S.zero_add c
theorem Cg(f g:Nat->Nat->K)(m n:Nat):S.db (λa=>S.db (λb=>S.add (f a b) (g a b)) n) m=S.add (S.db (λa=>S.db (f a) n) m) (S.db (λa=>S.db (g a) n) m):=by simp[jU]
theorem Ip(c:i<=x.length)(d:j<=y.length):iG S M x y T i j=S.add (yP S M x y T i j) (iG S M x y T i (j+1)):=by
 unfold iG;rw[<-q7 (S:=S) (p:=i) (q:=j) (m:=x.length+1) (n:=y.length+1) (by omega) (by omega) (yP S M x y T i j),<-Cg];refine aX λa _=>aX λb _=>?_;by_cases e:a=i/\b=j
 ·simp_all[if_neg,add_zero]
 ·rw[if_neg e,S.zero_add]
  grind
theorem Ow{d:List (List (List K))}{p q:Nat}(r:p<=x.length)(l:q<=y.length)(o:i<p\/(p=i/\j<=q)){c:K}(h:∀a b,a<=x.length->b<=y.length->(i<a\/(a=i/\j<=b))->yP S M x y d a b=S.add (yP S M x y T a b) (if a=p/\b=q then c else S.zero)):iG S M x y d i j=S.add (iG S M x y T i j) c:=by
 unfold iG;have e:=q7 (S:=S) (p:=p) (q:=q) (m:=x.length+1) (n:=y.length+1) (by omega) (by omega) c
 conv=>rhs;rw[<-e]
 rw[<-Cg];refine aX λa k=>aX λb f=>?_;by_cases g:i<a\/(a=i/\j<=b)
 ·grind
 ·rw[if_neg g,if_neg g,if_neg (by omega),add_zero]
theorem Io{c:List (List (List K))}(h:∀a b,a<=x.length->b<=y.length->(i<a\/(a=i/\j<=b))->yP S M x y c a b=yP S M x y T a b):iG S M x y c i j=iG S M x y T i j:=by
 unfold iG;refine aX λa e=>aX λb d=>?_
 grind
theorem K7(i:Nat):iG S M x y T i (y.length+1)=iG S M x y T (i+1) 0:=by
 unfold iG;refine aX λa d=>aX λb c=>?_
 grind
theorem Ov:iG S M x y T (x.length+1) j=S.zero:=by
 unfold iG;rw[aX (g:=λ_=>S.zero) λa c=>?_,iL];rw[aX (g:=λ_=>S.zero) λb _=>if_neg (by omega),iL]
theorem Oq(u v w:Nat->K)(n:Nat):dot S (λp=>S.add (u p) (v p)) w n=S.add (dot S u w n) (dot S v w n):=by grind[jU,aX,add_mul,dot]
theorem Ik{u v w:Nat->K}(h:∀p,p<n->u p=v p):dot S u w n=dot S v w n:=aX λi a=>by grind
noncomputable def jl(S:bm K)(M:gb K)(x y:List Int)(v:List K)(i j k:Nat):K:=S.db (λq=>S.mul (vec S v q) (ki S (λa=>jX S M x y i j a k) (bE M q))) M.bL.length
theorem Lb(g:kM M)(v:List K){i j k:Nat}(r:¬(x.length<i+k%2\/y.length<j+k/2)){s:List K}(n:∀p,p<M.bL.length->vec S s p=S.db (λq=>ki S (λa=>if gM (bO x i (k%2)) (bO y j (k/2)) p a then S.mul (vec S v q) a.w else S.zero) (bE M q)) M.bL.length):
  dot S (vec S s) (Gv S M x y (i+k%2) (j+k/2)) M.bL.length=jl S M x y v i j k:=by
 unfold jl dot;rw[aX (g:=λp=>S.db (λq=>ki S (λa=>if gM (bO x i (k%2)) (bO y j (k/2)) p a then S.mul (vec S v q) (S.mul a.w (Gv S M x y (i+k%2) (j+k/2) a.t))else S.zero) (bE M q)) M.bL.length) λp t=>by
  rw[n p t,<-uP];refine aX λq _=>?_;rw[S.mul_comm,<-DG];refine lb λa _=>?_;by_cases c:gM (bO x i (k%2)) (bO y j (k/2)) p a
  ·rw[if_pos c,if_pos c,c.2.2,S.mul_comm,S.mul_assoc]
  ·rw[if_neg c,if_neg c,mul_zero]]
 rw[yz];refine aX λq u=>?_;rw[<-DG];have e:∀l:List (jk K),(∀a∈l,a.t<M.bL.length)->S.db (λp=>ki S (λa=>if gM (bO x i (k%2)) (bO y j (k/2)) p a then S.mul (vec S v q) (S.mul a.w (Gv S M x y (i+k%2) (j+k/2) a.t))else S.zero) l) M.bL.length=ki S (λa=>S.mul (vec S v q) (jX S M x y i j a k)) l:=λl=>by
  induction l with
  |nil=>intro _;exact iL _
  | cons a l o=>
   intro f;have d:=f a (List.mem_cons_self ..);show S.db (λp=>S.add (if gM (bO x i (k%2)) (bO y j (k/2)) p a then _ else S.zero) (ki S _ l)) _=S.add _ _;rw[jU,o λb m=>f b (List.mem_cons_of_mem _ m)];congr 1;unfold jX;dsimp only;rw[if_neg r];by_cases c:a.i=bO x i (k%2)/\a.o=bO y j (k/2)
   ·rw[if_pos c,aX (g:=λp=>if a.t<=p/\p<a.t+1 then S.mul (vec S v q) (S.mul a.w (Gv S M x y (i+k%2) (j+k/2) a.t))else S.zero) λp _=>by
     by_cases e:a.t=p
     ·rw[if_pos ⟨c.1,c.2,e⟩,if_pos (by omega)]
     ·rw[if_neg λh=>e h.2.2,if_neg (by omega)]]
    rw[Ag (λ_=>S.mul (vec S v q) (S.mul a.w (Gv S M x y (i+k%2) (j+k/2) a.t))) (by omega:a.t+1<=M.bL.length)];exact S.zero_add _
   ·rw[if_neg c,aX (g:=λ_=>S.zero) λp _=>if_neg λh=>c ⟨h.1,h.2.1⟩,iL,mul_zero]
 refine e _ λa d=>?_;unfold bE at d;rcases tc (M:=M) q with e|e
 ·rw[e]at d;cases d
 ·exact g _ e a d
theorem Cb(g:kM M)(s:oE M x y T){v:List K}(t:v.length=M.bL.length){i j:Nat}(A:i<=x.length)(C:j<=y.length){k:Nat}(B:k=1\/k=2\/k=3):
  ∃h,oL (aq S) M x y v i j T k=some h/\oE M x y h/\dL h i j=dL T i j/\iG S M x y h i (j+1)=S.add (iG S M x y T i (j+1)) (jl S M x y v i j k):=by
 unfold oL;by_cases c:x.length<i+k%2\/y.length<j+k/2
 ·simp_all[iL,uO,mul_zero,add_zero,jl,jX]
 ·rw[if_neg c];obtain⟨l,n,u,m⟩:=RL (S:=S) g v (bO x i (k%2)) (bO y j (k/2));rw[n];dsimp only;have f:i+k%2<=x.length:=by omega
  have d:j+k/2<=y.length:=by omega
  obtain⟨r,o,z,D⟩:=WD (S:=S) (dL T (i+k%2) (j+k/2)) l;rw[o];dsimp only;have p:=s.cell _ _ f d;refine⟨_,rfl,s.set f d (by omega),?_,?_⟩
  ·rw[s.zj f d,if_neg (by omega)]
  ·refine Ow f d (by omega) λa b w q _=>?_;unfold yP;rw[s.zj f d];by_cases e:a=i+k%2/\b=j+k/2
   ·rw[if_pos e,if_pos e,e.1,e.2,<-Lb g v c m,<-Oq]
    grind[Ik]
   ·rw[if_neg e,if_neg e,add_zero]
theorem WB(g:kM M)(A:∀s∈x,s≠0)(N:∀s∈y,s≠0){B:Option (List (List K))}(t:dU (aq S) M=some B)(s:oE M x y T){i j:Nat}(d:i<=x.length)(e:j<=y.length):
  ∃l,mT (aq S) M B x y i T j=some l/\oE M x y l/\iG S M x y T i j=S.add (if i=x.length/\j=y.length then dot S (vec S (dL l i j)) (eH S M).fin M.bL.length else S.zero) (iG S M x y l i (j+1)):=by
 obtain⟨v,U,m,u⟩:=La g t (dL T i j) (s.cell i j d e);have F:=s.set d e m;obtain⟨Q,Y,r,J,G⟩:=Cb (S:=S) g F m d e (k:=1) (.inl rfl);obtain⟨V,W,w,o,D⟩:=Cb (S:=S) g r m d e (k:=2) (.inr (.inl rfl));obtain⟨n,P,C,p,L⟩:=Cb (S:=S) g w m d e (k:=3) (.inr (.inr rfl));refine⟨n,?_,C,?_⟩
 ·simp_all[mT,bd]
 ·rw[Ip d e];have H:iG S M x y (fm T i j v) i (j+1)=iG S M x y T i (j+1):=Io λa b _ _ h=>by
   unfold yP;rw[s.zj d e,if_neg (by omega)]
  have z:dL n i j=v:=by rw[p,o,J,s.zj d e,if_pos ⟨rfl,rfl⟩]
  rw[L,D,G,H,z];have I:yP S M x y T i j=S.add (if i=x.length/\j=y.length then dot S (vec S v) (eH S M).fin M.bL.length else S.zero) (S.add (S.add (jl S M x y v i j 1) (jl S M x y v i j 2)) (jl S M x y v i j 3)):=by
   unfold yP;rw[u x y i j];have E:∀q,iY S M x y i j q=S.add (if i=x.length/\j=y.length then(eH S M).fin q else S.zero) (S.add (S.add (ki S (λa=>jX S M x y i j a 1) (bE M q)) (ki S (λa=>jX S M x y i j a 2) (bE M q))) (ki S (λa=>jX S M x y i j a 3) (bE M q))):=λq=>by
    show S.add (if x.drop i=[]/\y.drop j=[]then(eH S M).fin q else S.zero) (ki S (m9.go S (m9.val S (eH S M)) (x.drop i) (y.drop j)) ((bE M q).map λa=>⟨a.i,a.o,a.w,a.t⟩))=_;rw[DF,lb λa _=>go_eq A N d e a];congr 1
    ·by_cases c:i=x.length/\j=y.length
     ·grind
     ·rw[if_neg c,if_neg]
      grind[List.drop_eq_nil_iff]
    ·show ki S (λa=>S.add (S.add (S.add S.zero (jX S M x y i j a 1)) (jX S M x y i j a 2)) (jX S M x y i j a 3)) _=_;rw[lb (g:=λa=>S.add (S.add (jX S M x y i j a 1) (jX S M x y i j a 2)) (jX S M x y i j a 3)) λa _=>by rw[S.zero_add],DE,DE]
   unfold dot jl;rw[aX λq _=>by rw[E q,S.mul_add,S.mul_add,S.mul_add],jU,jU,jU];congr 1;by_cases c:i=x.length/\j=y.length
   ·grind
   ·rw[if_neg c,aX (g:=λ_=>S.zero) λq _=>by rw[if_neg c,mul_zero],iL]
  rw[I];generalize iG S M x y T i (j+1)=R;generalize jl S M x y v i j 1=X;generalize jl S M x y v i j 2=Z;generalize jl S M x y v i j 3=O;generalize (if i=x.length/\j=y.length then dot S (vec S v) (eH S M).fin M.bL.length else S.zero)=f;rw[S.add_assoc f];congr 1;rw[S.add_comm,<-S.add_assoc,<-S.add_assoc]
theorem Nn(g:kM M)(d:∀s∈x,s≠0)(f:∀s∈y,s≠0){B:Option (List (List K))}(b:dU (aq S) M=some B){i:Nat}(e:i<=x.length):∀(m j:Nat)(T:List (List (List K))),j+m=y.length+1->oE M x y T->
  ∃a,bd (mT (aq S) M B x y i) m j T=some a/\oE M x y a/\(0<m->iG S M x y T i j=S.add (if i=x.length then dot S (vec S (dL a x.length y.length)) (eH S M).fin M.bL.length else S.zero) (iG S M x y a (i+1) 0))
 |0,j,T,k,s=>⟨T,rfl,s,λh=>absurd h (lt_irrefl 0)⟩
 | m+1,j,T,k,s=>by
  obtain⟨l,t,p,n⟩:=WB g d f b s e (show j<=y.length by omega);obtain⟨o,q,r,u⟩:=Nn g d f b e m (j+1) l (by omega) p;refine⟨o,by grind[bd],r,λ_=>?_⟩;rw[n];by_cases c:m=0
  ·subst c;obtain rfl:=oI q
   simp_all[K7]
  ·rw[if_neg (by omega),S.zero_add]
   grind
theorem Iq(g:kM M)(d:∀s∈x,s≠0)(e:∀s∈y,s≠0){B:Option (List (List K))}(b:dU (aq S) M=some B):∀(m i:Nat)(T:List (List (List K))),i+m=x.length+1->oE M x y T->
  ∃a,bd (qX (aq S) M B x y) m i T=some a/\oE M x y a/\(0<m->iG S M x y T i 0=dot S (vec S (dL a x.length y.length)) (eH S M).fin M.bL.length)
 |0,i,T,f,s=>⟨T,rfl,s,λh=>absurd h (lt_irrefl 0)⟩
 | m+1,i,T,f,s=>by
  obtain⟨j,q,n,k⟩:=Nn g d e b (show i<=x.length by omega) (y.length+1) 0 T (by omega) s;obtain⟨l,o,p,r⟩:=Iq g d e b m (i+1) j (by omega) n;refine⟨l,by grind[bd,qX],p,λ_=>?_⟩;rw[k (by omega)];by_cases c:m=0
  ·subst c;obtain rfl:=oI o
   simp_all[Ov,add_zero]
  ·rw[if_neg (by omega),S.zero_add]
   grind
end
theorem Lf{M:gb K}{x y:List Int}(g:kM M)(C:M.start<M.bL.length)(t:∀s∈x,s≠0)(A:∀s∈y,s≠0){w:K}(h:eC (aq S) M x y=some w):w=S.mul M.lead (m9.val S (eH S M) x y M.start):=by
 unfold eC at h
 cases k:dU (aq S) M with
 |none=>grind
 | some B=>
  rw[k]at h;dsimp only at h;have m:(bB (aq S) M.bL.length).length=M.bL.length:=length_replicate;have f:oE M x y (List.replicate (x.length+1) (List.replicate (y.length+1) (bB (aq S) M.bL.length))):=by
   have e:∀i,i<=x.length->(List.replicate (x.length+1) (List.replicate (y.length+1) (bB (aq S) M.bL.length))).getD i []=List.replicate (y.length+1) (bB (aq S) M.bL.length):=λi d=>by
    rw[gD,List.getElem?_replicate,if_pos (by omega)];rfl
   refine⟨length_replicate,λi d=>by rw[e i d];exact length_replicate,λi j d D=>?_⟩;unfold dL;rw[e i d,gD,List.getElem?_replicate,if_pos (by omega)];exact m
  have z:oE M x y (kd (aq S) M x y):=f.set (Nat.zero_le _) (Nat.zero_le _) (by rw[length_set];exact m);obtain⟨T,u,l,r⟩:=Iq g t A k (x.length+1) 0 (kd (aq S) M x y) (by omega) z;rw[u]at h;dsimp only at h;rw[Wz M _ (l.cell _ _ (Nat.le_refl _) (Nat.le_refl _)),l.cell _ _ (Nat.le_refl _) (Nat.le_refl _),<-r (by omega)]at h;obtain rfl:=oI h;have o:∀a b,a<=x.length->b<=y.length->yP S M x y (kd (aq S) M x y) a b=if a=0/\b=0 then S.mul M.lead (m9.val S (eH S M) x y M.start)else S.zero:=λa b v n=>by
   unfold yP kd;rw[f.zj (Nat.zero_le _) (Nat.zero_le _)];by_cases c:a=0/\b=0
   ·rw[if_pos c,if_pos c,c.1,c.2];unfold dot;rw[aX (g:=λq=>if M.start<=q/\q<M.start+1 then S.mul M.lead (m9.val S (eH S M) x y q)else S.zero) λq _=>by
     have:=uk (S:=S) (p:=q) M.lead (show M.start<(bB (aq S) M.bL.length).length by omega);rw[this];by_cases e:q=M.start
     ·rw[if_pos e,if_pos (by omega)];rfl
     ·rw[if_neg e,if_neg (by omega)];have:vec S (bB (aq S) M.bL.length) q=S.zero:=qB _ _;rw[this,S.zero_mul]]
    rw[Ag (λq=>S.mul M.lead (m9.val S (eH S M) x y q)) (by omega:M.start+1<=M.bL.length)];exact S.zero_add _
   ·rw[if_neg c,if_neg c];unfold dot;rw[aX (g:=λ_=>S.zero) λq _=>?_,iL];unfold dL;have e:(List.replicate (x.length+1) (List.replicate (y.length+1) (bB (aq S) M.bL.length))).getD a []=List.replicate (y.length+1) (bB (aq S) M.bL.length):=by
     rw[gD,List.getElem?_replicate,if_pos (by omega)];rfl
    rw[e,gD,List.getElem?_replicate,if_pos (by omega)];have:vec S (bB (aq S) M.bL.length) q=S.zero:=qB _ _;show S.mul (vec S (bB (aq S) M.bL.length) q) _=_;rw[this,S.zero_mul]
  unfold iG;rw[aX (g:=λa=>S.db (λb=>if a=0/\b=0 then S.mul M.lead (m9.val S (eH S M) x y M.start)else S.zero) (y.length+1)) λa v=>aX λb n=>by rw[if_pos (by omega),o a b (by omega) (by omega)]];simp[q7]
end
end Go.Num
end
section
namespace Go.Proofs.YtaaichlgdgjgjaaGreatDoor
open Go Go.Ab Go.RowKit
theorem Xx:(((Tryz.prog.funcs.toList.drop 0).take 40).all λf=>fH f)=true:=by kernel_rfl
theorem Xy:(((Tryz.prog.funcs.toList.drop 40).take 40).all λf=>fH f)=true:=by kernel_rfl
theorem Xz:(((Tryz.prog.funcs.toList.drop 80).take 40).all λf=>fH f)=true:=by kernel_rfl
theorem XA:(((Tryz.prog.funcs.toList.drop 120).take 40).all λf=>fH f)=true:=by kernel_rfl
theorem XB:(((Tryz.prog.funcs.toList.drop 160).take 40).all λf=>fH f)=true:=by kernel_rfl
theorem XC:(((Tryz.prog.funcs.toList.drop 200).take 40).all λf=>fH f)=true:=by kernel_rfl
theorem XD:(((Tryz.prog.funcs.toList.drop 240).take 40).all λf=>fH f)=true:=by kernel_rfl
theorem Pj:Tryz.prog.funcs.toList.length=259:=by kernel_rfl
theorem SV(i:Nat)(c:Func)(h:Tryz.prog.funcs.toList[i]?=some c):fH c=true:=by
 have b:∀a,((Tryz.prog.funcs.toList.drop a).take 40).all (λf=>fH f)=true->a<=i->i<a+40->fH c=true:=λa g d e=>by
  refine all_eq_true.1 g c (List.mem_of_getElem? (i:=i-a) ?_);rw[List.getElem?_take,if_pos (by omega),List.getElem?_drop,show a+(i-a)=i by omega];exact h
 have j:i<259:=by
  have:=(List.getElem?_eq_some_iff.1 h).1;rw[Pj]at this;exact this
 by_cases m:i<40
 ·exact b 0 Xx (by omega) (by omega)
 by_cases d:i<80
 ·exact b 40 Xy (by omega) (by omega)
 by_cases e:i<120
 ·exact b 80 Xz (by omega) (by omega)
 by_cases k:i<160
 ·exact b 120 XA (by omega) (by omega)
 by_cases l:i<200
 ·exact b 160 XB (by omega) (by omega)
 by_cases n:i<240
 ·exact b 200 XC (by omega) (by omega)
 exact b 240 XD (by omega) (by omega)
theorem PI:(Tryz.prog.funcs.toList.all λf=> !(f.name == "runtime.NumGoroutine"))=true:=by kernel_rfl
theorem Og:GK Tryz.prog:={
 names:=λ_ a h=>by
  have b:a∈Tryz.prog.funcs.toList:=by
   rw[<-Array.getElem?_toList]at h;exact List.mem_of_getElem? h
  have:=all_eq_true.1 PI a b;simpa using this
 Zy:=λf a h=>SV f a (by rw[Array.getElem?_toList];exact h) }
def ML:Code->Code
 |.seq a _=>a
 |c=>c
def HM:Code->Code
 |.seq _ b=>b
 |c=>c
noncomputable def Fj:Code:=(Tryz.f166.body).getD .skip
theorem G4(a:Array Value)(w:World)(h:a.size=2):CallsDIn Fence.wide 0 Tryz.prog 183 a .returning w λe c b=>(∃v,e = .returned v)/\c = .returning/\Below w.heap.size w b/\w.drawn<=b.drawn:=
 XI (n:=2) Tryz.func183 rfl rfl (by kernel_rfl) a w h
end Go.Proofs.YtaaichlgdgjgjaaGreatDoor
end
section
namespace Go.Proofs.YtaaichlgdgjgjaaGreatDoor
open Go Go.Ab Go.Num
def Wt:Nat->Bool:=λg=>Nat.beq g 1
noncomputable def prS:FuncId->Option uV:=λf=>SF (Nat.beq f 81) (some Dt) (SF (Nat.beq f 222) (some qL) (SF (Nat.beq f 226) (some pw) (SF (Nat.beq f 166) (some (wG Tryz.prog Wt Tryz.f166 (ML Fj) (HM (HM Fj)) 5)) none)))
noncomputable def SS:Sx:=⟨Tryz.prog,Wt,prS⟩
theorem aet:aE Tryz.prog 22=some 1:=by kernel_rfl
abbrev lI(h:ae)(p:Addr)(K:Int->Prop):Prop:=xI .i64 (aj SS.P 3 h (.pointer (some p))) K
abbrev lS(h:ae)(p:Addr)(K:List UInt8->Prop):Prop:=xS (aj SS.P 9 h (.pointer (some p))) K
abbrev lB(h:ae)(p:Addr)(K:Bool->Prop):Prop:=xB (aj SS.P 4 h (.pointer (some p))) K
abbrev lL(t:TypeId)(h:ae)(p:Addr)(K:Option Addr->Nat->Nat->Prop):Prop:=xL (aj SS.P t h (.pointer (some p))) K
abbrev lA(t:TypeId)(h:ae)(v:Value)(K:List Value->Prop):Prop:=xA (aj SS.P t h v) K
abbrev fP(t:TypeId)(v:Value)(i:Nat)(K:Addr->Prop):Prop:=xP (aG SS.P t v i) K
abbrev iP(t:TypeId)(v i:Value)(K:Addr->Prop):Prop:=xP (aA SS.P t v i) K
variable{s:List UInt8}{t:List UInt8}{z:Int}{v:Value}{w:Value}{h:ae}{Q:VH}{b:Bool}
noncomputable def Pa:FD:=cG Tryz.f191 []
theorem Lw(l m:LB)(h:ae)(Q:VH)(e:FW SS 204 [(strOf l),(strOf m)] h λc d=>yB c λb=>au (!b) (Q (.tuple ⟨[(strOf l),(.bool false)]⟩) d) (xS (bG SS.P 9 (strOf l) (some (.int .i64 ((m:LB).length:Int))) none none d) λa=>Q (.tuple ⟨[(strOf a),(.bool true)]⟩) d)):FW SS 191 [(strOf l),(strOf m)] h Q:=cQ Pa Tryz.func191 (ai e)
noncomputable def SP:FD:=cG Tryz.f177 []
theorem Pb(l m:LB)(h:ae)(Q:VH)(e:FW SS 191 [(strOf l),(strOf m)] h λc d=>∃b:LB,∃a:Bool,c=(.tuple ⟨[(strOf b),(.bool a)]⟩)/\Q (.tuple ⟨[(strOf b),(.bool a)]⟩) d):FW SS 177 [(strOf l),(strOf m)] h Q:=cQ SP Tryz.func177 (ai e)
noncomputable def LP:FD:=cG Tryz.f214 []
theorem Jp(l:LB)(c:Int)(h:ae)(Q:VH)(d:FW SS 226 [(strOf l),(.int .u8 c)] h λb c=>yI .i64 b λa=>Q (.int .i64 a) c):FW SS 214 [(strOf l),(.int .u8 c)] h Q:=cQ LP Tryz.func214 (ai d)
noncomputable def Tk:FD:=cG Tryz.f205 []
theorem Po(l:LB)(h:ae)(Q:VH)(e:au (([47]:LB)==l) (Q (.int .i64 0) h) (xI .u8 (bP SS.P 9 (strOf [47]) (.int .i64 0)) λd=>FW SS 214 [(strOf l),(.int .u8 d)] h λb c=>yI .i64 b λa=>Q (.int .i64 a) c)):FW SS 205 [(strOf l),(strOf [47])] h Q:=cQ Tk Tryz.func205 (ai e)
noncomputable def aau:FD:=cG Tryz.f192 []
theorem Xs(l:LB)(h:ae)(Q:VH)(f:FW SS 205 [(strOf l),(strOf [47])] h λd e=>yI .i64 d λc=>au (decide ((c:Int)>=0)) (xS (bG SS.P 9 (strOf l) none (some (.int .i64 c)) none (room e 12)) λb=>xS (bG SS.P 9 (strOf l) (some (.int .i64 (wrap .i64 (c+1)))) none none (room e 12)) λa=>Q (.tuple ⟨[(strOf b),(strOf a),(.bool true)]⟩) (room e 12)) (Q (.tuple ⟨[(strOf l),(strOf []),(.bool false)]⟩) e)):FW SS 192 [(strOf l),(strOf [47])] h Q:=cQ aau Tryz.func192 (ai f)
noncomputable def acs:FD:=cG Tryz.f178 []
theorem aav(l:LB)(h:ae)(Q:VH)(f:FW SS 192 [(strOf l),(strOf [47])] h λd e=>∃c:LB,∃b:LB,∃a:Bool,d=(.tuple ⟨[(strOf c),(strOf b),(.bool a)]⟩)/\Q (.tuple ⟨[(strOf c),(strOf b),(.bool a)]⟩) e):FW SS 178 [(strOf l),(strOf [47])] h Q:=cQ acs Tryz.func178 (ai f)
noncomputable def jB:FD:=cG Tryz.f116 [([1,0,1,0,0],[0,1,5])]
abbrev jf(l:LB)(c:Int)(i:Nat):LV:=[(strOf l),(.int .u8 c),(iA i)]
theorem HA(l:LB)(c:Int)(h:ae)(Q:VH)(a:LL SS jB [1,0,1,0,0] (jf l c 0) h (KK SS jB [1,0,1,0] [] (EE SS jB Q))):FW SS 116 [(strOf l),(.int .u8 c)] h Q:=cQ jB Tryz.func116 (ai a)
theorem tJ(l:LB)(c:Int)  (d:Nat->Nat->ae->Prop) (Q:VH) (step:∀(b:Nat)(i:Nat)(f:Nat->Value)(h:ae),d b i h->au (decide (((i:Int):Int)<((l:LB).length:Int))) (xI .u8 (bP SS.P 9 (strOf l) (iA i)) λa=>au (((a:Int)==c)) (Q (iA i) h) (aI (fj (jf l c) d) b [(strOf l),(.int .u8 c),(.int .i64 (wrap .i64 ((i:Int)+1)))] h)) (Q (.int .i64 (-1)) h)) (b:Nat) {i:Nat} {h:ae} (e:d b i h):LL SS jB [1,0,1,0,0] (jf l c i) h (KK SS jB [1,0,1,0] [] (EE SS jB Q)):=
 dg (jf l c) d (λb i f h e=>ai (step b i f h e)) b e
noncomputable def J2:FD:=cG Tryz.f117 []
theorem HD(l:LB)(h:ae)(Q:VH)(d:au (decide ((((l:LB).length:Int):Int)<=400)) (FW SS 136 [(strOf l)] h λb c=>yB b λa=>Q (.bool a) c) (Q (.bool false) h)):FW SS 117 [(strOf l)] h Q:=cQ J2 Tryz.func117 (ai d)
noncomputable def av:FD:=cG Tryz.f94 []
abbrev AR(l:LB)(cc:Code)(h:ae)(Q:VH):Prop:=au (decide ((((l:LB).length:Int):Int)>0)) (xI .u8 (bP SS.P 9 (strOf l) (.int .i64 0)) λc=>au (((c:Int)==45)) (xS (bG SS.P 9 (strOf l) (some (.int .i64 1)) none none h) λe=>FW SS 116 [(strOf e),(.int .u8 47)] h λr g=>yI .i64 r λd=>au (decide ((d:Int)>=0)) (xS (bG SS.P 9 (strOf e) (some (.int .i64 (wrap .i64 (d+1)))) none none g) λp=>xS (bG SS.P 9 (strOf e) none (some (.int .i64 d)) none g) λo=>wpS SS av.nm av.ms [1,1,1,1,1,1] cc (uN [(strOf l),undef,(.bool false),(strOf []),(strOf []),(.bool false),(strOf o),(strOf p),(.bool (((c:Int)==45))),(.int .i64 d),undef,undef,(strOf l),(strOf l),(.int .i64 ((l:LB).length:Int)),(.bool (decide ((((l:LB).length:Int):Int)>0))),(.bool true),(strOf l),(.int .u8 c),(.bool (((c:Int)==45))),(.bool (((c:Int)==45))),(.bool (((c:Int)==45))),(strOf l),(strOf e),(strOf e),(.int .i64 d),(.int .i64 d),(.bool (decide ((d:Int)>=0))),(strOf e),(.int .i64 d),(.int .i64 (wrap .i64 (d+1))),(strOf p),(strOf e),(.int .i64 d),(strOf o)] 46) g (EE SS av Q)) (wpS SS av.nm av.ms [1,1,1,1,1,1] cc (uN [(strOf l),undef,(.bool false),(strOf []),(strOf []),(.bool false),(strOf e),(strOf [49]),(.bool (((c:Int)==45))),(.int .i64 d),undef,undef,(strOf l),(strOf l),(.int .i64 ((l:LB).length:Int)),(.bool (decide ((((l:LB).length:Int):Int)>0))),(.bool true),(strOf l),(.int .u8 c),(.bool (((c:Int)==45))),(.bool (((c:Int)==45))),(.bool (((c:Int)==45))),(strOf l),(strOf e),(strOf e),(.int .i64 d),(.int .i64 d),(.bool (decide ((d:Int)>=0)))] 53) g (EE SS av Q))) (FW SS 116 [(strOf l),(.int .u8 47)] h λs i=>yI .i64 s λb=>au (decide ((b:Int)>=0)) (xS (bG SS.P 9 (strOf l) (some (.int .i64 (wrap .i64 (b+1)))) none none i) λn=>xS (bG SS.P 9 (strOf l) none (some (.int .i64 b)) none i) λk=>wpS SS av.nm av.ms [1,1,1,1,1,1] cc (uN [(strOf l),undef,(.bool false),(strOf []),(strOf []),(.bool false),(strOf k),(strOf n),(.bool (((c:Int)==45))),(.int .i64 b),undef,undef,(strOf l),(strOf l),(.int .i64 ((l:LB).length:Int)),(.bool (decide ((((l:LB).length:Int):Int)>0))),(.bool true),(strOf l),(.int .u8 c),(.bool (((c:Int)==45))),(.bool (((c:Int)==45))),(.bool (((c:Int)==45))),undef,undef,(strOf l),(.int .i64 b),(.int .i64 b),(.bool (decide ((b:Int)>=0))),(strOf l),(.int .i64 b),(.int .i64 (wrap .i64 (b+1))),(strOf n),(strOf l),(.int .i64 b),(strOf k)] 46) i (EE SS av Q)) (wpS SS av.nm av.ms [1,1,1,1,1,1] cc (uN [(strOf l),undef,(.bool false),(strOf []),(strOf []),(.bool false),(strOf l),(strOf [49]),(.bool (((c:Int)==45))),(.int .i64 b),undef,undef,(strOf l),(strOf l),(.int .i64 ((l:LB).length:Int)),(.bool (decide ((((l:LB).length:Int):Int)>0))),(.bool true),(strOf l),(.int .u8 c),(.bool (((c:Int)==45))),(.bool (((c:Int)==45))),(.bool (((c:Int)==45))),undef,undef,(strOf l),(.int .i64 b),(.int .i64 b),(.bool (decide ((b:Int)>=0)))] 53) i (EE SS av Q)))) (FW SS 116 [(strOf l),(.int .u8 47)] h λq f=>yI .i64 q λa=>au (decide ((a:Int)>=0)) (xS (bG SS.P 9 (strOf l) (some (.int .i64 (wrap .i64 (a+1)))) none none f) λm=>xS (bG SS.P 9 (strOf l) none (some (.int .i64 a)) none f) λj=>wpS SS av.nm av.ms [1,1,1,1,1,1] cc (uN [(strOf l),undef,(.bool false),(strOf []),(strOf []),(.bool false),(strOf j),(strOf m),(.bool false),(.int .i64 a),undef,undef,(strOf l),(strOf l),(.int .i64 ((l:LB).length:Int)),(.bool (decide ((((l:LB).length:Int):Int)>0))),(.bool false),undef,undef,undef,(.bool false),(.bool false),undef,undef,(strOf l),(.int .i64 a),(.int .i64 a),(.bool (decide ((a:Int)>=0))),(strOf l),(.int .i64 a),(.int .i64 (wrap .i64 (a+1))),(strOf m),(strOf l),(.int .i64 a),(strOf j)] 46) f (EE SS av Q)) (wpS SS av.nm av.ms [1,1,1,1,1,1] cc (uN [(strOf l),undef,(.bool false),(strOf []),(strOf []),(.bool false),(strOf l),(strOf [49]),(.bool false),(.int .i64 a),undef,undef,(strOf l),(strOf l),(.int .i64 ((l:LB).length:Int)),(.bool (decide ((((l:LB).length:Int):Int)>0))),(.bool false),undef,undef,undef,(.bool false),(.bool false),undef,undef,(strOf l),(.int .i64 a),(.int .i64 a),(.bool (decide ((a:Int)>=0)))] 53) f (EE SS av Q)))
theorem HC(l:LB)(h:ae)(Q:VH)(a:AR l (fI [1,1,1,1,1,1] av.body) h Q):FW SS 94 [(strOf l)] h Q:=by
 have e:∀cc,AR l cc h Q=wpS SS av.nm av.ms [] (setAt [1,1,1,1,1,1] cc av.body) ([(strOf l)]++List.replicate (av.nm-([(strOf l)]:LV).length) undef) h (EE SS av Q):=λcc=>by kernel_rfl
 have e:=e (fI [1,1,1,1,1,1] av.body);rw[iR]at e;exact cQ av Tryz.func94 (ai a e)
abbrev tK(n d:LB)(neg:Bool)(a:Int)(cc:Code)(Z x1 X x3 Y W K L m H x P U G O M o l k w z V J B s I D p S i j x7 y9 u5 u4 y8 y3 y1 y6 z2 y0 x9 u0 u6 u3 z4 u2 z5 y5 x8 z9 x6 u1 z6 z7 y7 z8 y4 z1 z3 z0 y2 q t C r u A T E F y f g v N R:Value)(h:ae)(Q:VH):Prop:=FW SS 117 [(strOf n)] h λv1 h2=>yB v1 λe=>au (!e) (Q (.tuple ⟨[(.bool false),(strOf []),(strOf []),(.bool false)]⟩) h2) (FW SS 117 [(strOf d)] h2 λv4 c=>yB v4 λb=>au (!b) (Q (.tuple ⟨[(.bool false),(strOf []),(strOf []),(.bool false)]⟩) c) (au ((d:LB)==[48]) (Q (.tuple ⟨[(.bool false),(strOf []),(strOf []),(.bool false)]⟩) c) (au ((n:LB)==[48]) (au neg (Q (.tuple ⟨[(.bool false),(strOf []),(strOf []),(.bool false)]⟩) c) (au (decide ((a:Int)>=0)) (Q (.tuple ⟨[(.bool false),(strOf []),(strOf []),(.bool false)]⟩) c) (au ((d:LB)==[49]) (au (decide ((a:Int)>=0)) (Q (.tuple ⟨[(.bool false),(strOf []),(strOf []),(.bool false)]⟩) c) (wpS SS av.nm av.ms [1,1,1,1,1,1,1] cc [Z,x1,X,x3,Y,W,(strOf n),(strOf d),(.bool neg),(.int .i64 a),K,L,m,H,x,P,U,G,O,M,o,l,k,w,z,V,J,B,s,I,D,p,S,i,j,(strOf n),(.bool e),(.bool (!e)),(.bool false),(strOf d),(.bool b),(.bool (!b)),(.bool (!b)),(.bool false),(strOf d),(.bool ((d:LB)==[48])),(.bool ((d:LB)==[48])),(.bool false),(strOf n),(.bool ((n:LB)==[48])),(.bool true),(.bool neg),(.bool false),(.int .i64 a),(.bool (decide ((a:Int)>=0))),(.bool (decide ((a:Int)>=0))),(.bool (decide ((a:Int)>=0))),(.bool (decide ((a:Int)>=0))),(.bool false),(strOf d),(.bool ((d:LB)==[49])),(.bool true),(.int .i64 a),(.bool (decide ((a:Int)>=0))),(.bool (decide ((a:Int)>=0))),(.bool (decide ((a:Int)>=0))),q,t,C,r,u,A,T,E,F,y,f,g,v,N,R] c (EE SS av Q))) (wpS SS av.nm av.ms [1,1,1,1,1,1,1] cc [Z,x1,X,x3,Y,W,(strOf n),(strOf d),(.bool neg),(.int .i64 a),K,L,m,H,x,P,U,G,O,M,o,l,k,w,z,V,J,B,s,I,D,p,S,i,j,(strOf n),(.bool e),(.bool (!e)),(.bool false),(strOf d),(.bool b),(.bool (!b)),(.bool (!b)),(.bool false),(strOf d),(.bool ((d:LB)==[48])),(.bool ((d:LB)==[48])),(.bool false),(strOf n),(.bool ((n:LB)==[48])),(.bool true),(.bool neg),(.bool false),(.int .i64 a),(.bool (decide ((a:Int)>=0))),(.bool (decide ((a:Int)>=0))),(.bool (decide ((a:Int)>=0))),(.bool (decide ((a:Int)>=0))),(.bool false),(strOf d),(.bool ((d:LB)==[49])),(.bool false),undef,undef,(.bool false),(.bool false),q,t,C,r,u,A,T,E,F,y,f,g,v,N,R] c (EE SS av Q))))) (au ((d:LB)==[49]) (au (decide ((a:Int)>=0)) (Q (.tuple ⟨[(.bool false),(strOf []),(strOf []),(.bool false)]⟩) c) (wpS SS av.nm av.ms [1,1,1,1,1,1,1] cc [Z,x1,X,x3,Y,W,(strOf n),(strOf d),(.bool neg),(.int .i64 a),K,L,m,H,x,P,U,G,O,M,o,l,k,w,z,V,J,B,s,I,D,p,S,i,j,(strOf n),(.bool e),(.bool (!e)),(.bool false),(strOf d),(.bool b),(.bool (!b)),(.bool (!b)),(.bool false),(strOf d),(.bool ((d:LB)==[48])),(.bool ((d:LB)==[48])),(.bool false),(strOf n),(.bool ((n:LB)==[48])),(.bool false),undef,undef,undef,undef,undef,(.bool false),(.bool false),(.bool false),(strOf d),(.bool ((d:LB)==[49])),(.bool true),(.int .i64 a),(.bool (decide ((a:Int)>=0))),(.bool (decide ((a:Int)>=0))),(.bool (decide ((a:Int)>=0))),q,t,C,r,u,A,T,E,F,y,f,g,v,N,R] c (EE SS av Q))) (wpS SS av.nm av.ms [1,1,1,1,1,1,1] cc [Z,x1,X,x3,Y,W,(strOf n),(strOf d),(.bool neg),(.int .i64 a),K,L,m,H,x,P,U,G,O,M,o,l,k,w,z,V,J,B,s,I,D,p,S,i,j,(strOf n),(.bool e),(.bool (!e)),(.bool false),(strOf d),(.bool b),(.bool (!b)),(.bool (!b)),(.bool false),(strOf d),(.bool ((d:LB)==[48])),(.bool ((d:LB)==[48])),(.bool false),(strOf n),(.bool ((n:LB)==[48])),(.bool false),undef,undef,undef,undef,undef,(.bool false),(.bool false),(.bool false),(strOf d),(.bool ((d:LB)==[49])),(.bool false),undef,undef,(.bool false),(.bool false),q,t,C,r,u,A,T,E,F,y,f,g,v,N,R] c (EE SS av Q))))))
theorem Bk{neg:Bool}{x2 x3 x4 x5 y4 y6 x y0 N z2 z9 x9 z1 y8 y p m M P u2 y3 U H y2 Y D z7 f l d C u0 z6 B o k u R j i y7 u1 z4 V z3 X r g y5 a y9 Z x7 A y1 q K S G n E I W F J T z8 x6 x8 O b c L z0 z5:Value}(hx:tK s t neg z (fI [1,1,1,1,1,1,1] av.body) v w x2 x3 x4 x5 y4 y6 x y0 N z2 z9 x9 z1 y8 y p m M P u2 y3 U H y2 Y D z7 f l d C u0 z6 B o k u R j i y7 u1 z4 V z3 X r g y5 a y9 Z x7 A y1 q K S G n E I W F J T z8 x6 x8 O b c L z0 z5 h Q):TT SS av [1,1,1,1,1,1] [v,w,x2,x3,x4,x5,(strOf s),(strOf t),(.bool neg),(.int .i64 z),y4,y6,x,y0,N,z2,z9,x9,z1,y8,y,p,m,M,P,u2,y3,U,H,y2,Y,D,z7,f,l,d,C,u0,z6,B,o,k,u,R,j,i,y7,u1,z4,V,z3,X,r,g,y5,a,y9,Z,x7,A,y1,q,K,S,G,n,E,I,W,F,J,T,z8,x6,x8,O,b,c,L,z0,z5] h (EE SS av Q):=by
 have e:∀cc,tK s t neg z cc v w x2 x3 x4 x5 y4 y6 x y0 N z2 z9 x9 z1 y8 y p m M P u2 y3 U H y2 Y D z7 f l d C u0 z6 B o k u R j i y7 u1 z4 V z3 X r g y5 a y9 Z x7 A y1 q K S G n E I W F J T z8 x6 x8 O b c L z0 z5 h Q=wpS SS av.nm av.ms [1,1,1,1,1,1] (setAt [1] cc (fI [1,1,1,1,1,1] av.body)) [v,w,x2,x3,x4,x5,(strOf s),(strOf t),(.bool neg),(.int .i64 z),y4,y6,x,y0,N,z2,z9,x9,z1,y8,y,p,m,M,P,u2,y3,U,H,y2,Y,D,z7,f,l,d,C,u0,z6,B,o,k,u,R,j,i,y7,u1,z4,V,z3,X,r,g,y5,a,y9,Z,x7,A,y1,q,K,S,G,n,E,I,W,F,J,T,z8,x6,x8,O,b,c,L,z0,z5] h (EE SS av Q):=λcc=>by kernel_rfl
 have e:=e (fI [1,1,1,1,1,1,1] av.body);have ec:(fI [1,1,1,1,1,1,1] av.body)=fI [1] (fI [1,1,1,1,1,1] av.body):=by kernel_rfl
 have es:setAt [1] (fI [1,1,1,1,1,1,1] av.body) (fI [1,1,1,1,1,1] av.body)=fI [1,1,1,1,1,1] av.body:=by rw[ec,iR]
 rw[es]at e;exact ai hx e
theorem Bl{neg:Bool}{x2 x3 x4 x5 y7 y9 B y3 R z5 u2 y2 z4 z1 C u p P T u5 y6 X K y5 x7 G u0 j o i F u3 z9 E r n A U m l z0 u4 z7 Y z6 x6 y k y8 d z2 x8 y0 D y4 x N V J q H L Z I M W u1 x9 y1 S f g O z3 z8:Value}(hx:FW SS 118 [(strOf s),(strOf t)] h λc e=>∃b:LB,∃a:Int,c=(.tuple ⟨[(strOf b),(.int .i64 a)]⟩)/\au (!((b:LB)==[49])) (au (!((t:LB)==[49])) (Q (.tuple ⟨[(.bool false),(strOf []),(strOf []),(.bool false)]⟩) e) (Q (.tuple ⟨[(.bool neg),(strOf s),(strOf t),(.bool true)]⟩) e)) (Q (.tuple ⟨[(.bool neg),(strOf s),(strOf t),(.bool true)]⟩) e)):TT SS av [1,1,1,1,1,1,1] [v,w,x2,x3,x4,x5,(strOf s),(strOf t),(.bool neg),(.int .i64 z),y7,y9,B,y3,R,z5,u2,y2,z4,z1,C,u,p,P,T,u5,y6,X,K,y5,x7,G,u0,j,o,i,F,u3,z9,E,r,n,A,U,m,l,z0,u4,z7,Y,z6,x6,y,k,y8,d,z2,x8,y0,D,y4,x,N,V,J,q,H,L,Z,I,M,W,u1,x9,y1,S,f,g,O,z3,z8] h (EE SS av Q):=ai hx
noncomputable def J4:FD:=cG Tryz.f71 []
theorem HF(l:LB)(h:ae)(Q:VH)(g:FW SS 94 [(strOf l)] h λe f=>∃d:Bool,∃c:LB,∃b:LB,∃a:Bool,e=(.tuple ⟨[(.bool d),(strOf c),(strOf b),(.bool a)]⟩)/\Q (.bool a) f):FW SS 71 [(strOf l)] h Q:=cQ J4 Tryz.func71 (ai g)
noncomputable def J3:FD:=cG Tryz.f96 []
theorem HE(l m:LB)(h:ae)(Q:VH)(e:FW SS 122 [(strOf l),(strOf m)] h λc d=>∃b:LB,∃a:Int,c=(.tuple ⟨[(strOf b),(.int .i64 a)]⟩)/\Q (strOf b) d):FW SS 96 [(strOf l),(strOf m)] h Q:=cQ J3 Tryz.func96 (ai e)
noncomputable def QE:FD:=cG Tryz.f95 []
theorem My(p:Bool)(l:LB)(q:Bool)(m:LB)(h:ae)(Q:VH)(i:au (p==q) (FW SS 119 [(strOf l),(strOf m)] h λc d=>∃b:LB,∃a:Int,c=(.tuple ⟨[(strOf b),(.int .i64 a)]⟩)/\Q (.tuple ⟨[(.bool p),(strOf b)]⟩) d) (FW SS 120 [(strOf l),(strOf m)] h λf g=>yI .i64 f λe=>au (decide ((e:Int)>=0)) (FW SS 121 [(strOf l),(strOf m)] g λc d=>∃b:LB,∃a:Int,c=(.tuple ⟨[(strOf b),(.int .i64 a)]⟩)/\Q (.tuple ⟨[(.bool p),(strOf b)]⟩) d) (FW SS 121 [(strOf m),(strOf l)] g λc d=>∃b:LB,∃a:Int,c=(.tuple ⟨[(strOf b),(.int .i64 a)]⟩)/\Q (.tuple ⟨[(.bool q),(strOf b)]⟩) d))):FW SS 95 [(.bool p),(strOf l),(.bool q),(strOf m)] h Q:=cQ QE Tryz.func95 (ai i)
noncomputable def QD:FD:=cG Tryz.f72 []
theorem Mx(l m:LB)(h:ae)(Q:VH)(w:FW SS 94 [(strOf l)] h λu v=>∃t:Bool,∃s:LB,∃r:LB,∃q:Bool,u=(.tuple ⟨[(.bool t),(strOf s),(strOf r),(.bool q)]⟩)/\FW SS 94 [(strOf m)] v λo p=>∃n:Bool,∃m:LB,∃l:LB,∃k:Bool,o=(.tuple ⟨[(.bool n),(strOf m),(strOf l),(.bool k)]⟩)/\au (!q) (Q (.int .i64 0) p) (au (!k) (Q (.int .i64 0) p) (FW SS 96 [(strOf s),(strOf l)] p λi j=>yS i λh=>FW SS 96 [(strOf m),(strOf r)] j λf g=>yS f λe=>FW SS 95 [(.bool t),(strOf h),(.bool (!n)),(strOf e)] g λc d=>∃b:Bool,∃a:LB,c=(.tuple ⟨[(.bool b),(strOf a)]⟩)/\au ((a:LB)==[48]) (Q (.int .i64 0) d) (au b (Q (.int .i64 (-1)) d) (Q (.int .i64 1) d))))):FW SS 72 [(strOf l),(strOf m)] h Q:=cQ QD Tryz.func72 (ai w)
noncomputable def Qv:FD:=cG Tryz.f142 []
theorem Ms(l:LB)(e:Int)(h:ae)(Q:VH)(a:au (((e:Int) !=0)) (xA (bh SS.P 176 []) λ_=>False) (Q (strOf l) h)):FW SS 142 [(strOf l),(.int .i64 e)] h Q:=cQ Qv Tryz.func142 (ai a)
noncomputable def al:FD:=cG Tryz.f145 []
abbrev Df(l:LB)(cc:Code)(h:ae)(Q:VH):Prop:=xN (br SS.P 155) h λm j=>FW SS 177 [(strOf l),(strOf [45])] j λg k=>∃c:LB,∃d:Bool,g=(.tuple ⟨[(strOf c),(.bool d)]⟩)/\FW SS 178 [(strOf c),(strOf [47])] k λi f=>∃e:LB,∃b:LB,∃a:Bool,i=(.tuple ⟨[(strOf e),(strOf b),(.bool a)]⟩)/\au (!a) (wpS SS al.nm al.ms [1,1,1,1] cc (uN [(strOf l),undef,(pA (h.next)),(.bool false),(strOf c),(.bool d),(strOf e),(strOf [49]),(.bool a),undef,undef,(.tuple ⟨[(strOf c),(.bool d)]⟩),(strOf l),(.tuple ⟨[(strOf c),(.bool d)]⟩),(strOf c),(.bool d),(.tuple ⟨[(strOf e),(strOf b),(.bool a)]⟩),(strOf c),(.tuple ⟨[(strOf e),(strOf b),(.bool a)]⟩),(strOf e),(strOf b),(.bool a),(.bool a),(.bool (!a))] 53) f (EE SS al Q)) (wpS SS al.nm al.ms [1,1,1,1] cc (uN [(strOf l),undef,(pA (h.next)),(.bool false),(strOf c),(.bool d),(strOf e),(strOf b),(.bool a),undef,undef,(.tuple ⟨[(strOf c),(.bool d)]⟩),(strOf l),(.tuple ⟨[(strOf c),(.bool d)]⟩),(strOf c),(.bool d),(.tuple ⟨[(strOf e),(strOf b),(.bool a)]⟩),(strOf c),(.tuple ⟨[(strOf e),(strOf b),(.bool a)]⟩),(strOf e),(strOf b),(.bool a),(.bool a),(.bool (!a))] 53) f (EE SS al Q))
theorem JY(l:LB)(h:ae)(Q:VH)(a:Df l (fI [1,1,1,1] al.body) h Q):FW SS 145 [(strOf l)] h Q:=by
 have e:∀cc,Df l cc h Q=wpS SS al.nm al.ms [] (setAt [1,1,1,1] cc al.body) ([(strOf l)]++List.replicate (al.nm-([(strOf l)]:LV).length) undef) h (EE SS al Q):=λcc=>by kernel_rfl
 have e:=e (fI [1,1,1,1] al.body);rw[iR]at e;exact cQ al Tryz.func145 (ai a e)
abbrev vF(n d:LB)(neg r:Bool)(p:Addr)(cc:Code)(x0 x1 x3 x4 x9 Z x5 v X G y1 y6 W y0 x7 w q m F z9 u9 u4 u1 z8 u3 u2 z7 u7 z0 z2 y9 z6 u8 u6 z5 z3 z1 u I l j x6 y7 y3 N y2 P t i x2 f x8 S U x Y s E J A o y C O z D K y4 T V H g:Value)(h:ae)(Q:VH):Prop:=FW SS 171 [(strOf n)] h λv1 e=>yB v1 λc=>au (!c) (xA (bh SS.P 155 []) λc4=>xU (ah SS.P 155 (.pointer (some p)) (.agg ⟨c4⟩) e) e λu5 g6=>dY SS [((.pointer (some p)),some 155),((.bool false),none)] g6 Q) (FW SS 171 [(strOf d)] e λv7 a=>yB v7 λb=>au (!b) (xA (bh SS.P 155 []) λy5=>xU (ah SS.P 155 (.pointer (some p)) (.agg ⟨y5⟩) a) a λz4 k=>dY SS [((.pointer (some p)),some 155),((.bool false),none)] k Q) (au (decide ((((n:LB).length:Int):Int)>400)) (xA (bh SS.P 155 []) λM=>xU (ah SS.P 155 (.pointer (some p)) (.agg ⟨M⟩) a) a λy8 L=>dY SS [((.pointer (some p)),some 155),((.bool false),none)] L Q) (au (decide ((((d:LB).length:Int):Int)>400)) (xA (bh SS.P 155 []) λR=>xU (ah SS.P 155 (.pointer (some p)) (.agg ⟨R⟩) a) a λu0 B=>dY SS [((.pointer (some p)),some 155),((.bool false),none)] B Q) (wpS SS al.nm al.ms [1,1,1,1,1] cc [x0,x1,(.pointer (some p)),x3,x4,(.bool neg),(strOf n),(strOf d),(.bool r),x9,Z,x5,v,X,G,y1,y6,W,y0,x7,w,q,m,F,(strOf n),(.bool c),(.bool (!c)),(.bool false),(strOf d),(.bool b),(.bool (!b)),(.bool (!b)),(.bool false),(strOf n),(.int .i64 ((n:LB).length:Int)),(.bool (decide ((((n:LB).length:Int):Int)>400))),(.bool (decide ((((n:LB).length:Int):Int)>400))),(.bool false),(strOf d),(.int .i64 ((d:LB).length:Int)),(.bool (decide ((((d:LB).length:Int):Int)>400))),(.bool (decide ((((d:LB).length:Int):Int)>400))),u,I,l,j,x6,y7,y3,N,y2,P,t,i,x2,f,x8,S,U,x,Y,s,E,J,A,o,y,C,O,z,D,K,y4,T,V,H,g] a (EE SS al Q)))))
theorem Dg{neg:Bool}{p:Addr}{x3 x4 x9 y2 y4 y x7 M y9 z5 x6 y8 y6 z q m L O z8 y1 T H y0 X D z3 f l d C z6 z2 B o k x P j i y5 z7 z1 U z0 W u g y3 a y7 Y x2 A x8 r K R G n E I V F J S z4 Z x5 N c:Value}(hx:vF s t neg b p (fI [1,1,1,1,1] al.body) v w x3 x4 x9 y2 y4 y x7 M y9 z5 x6 y8 y6 z q m L O z8 y1 T H y0 X D z3 f l d C z6 z2 B o k x P j i y5 z7 z1 U z0 W u g y3 a y7 Y x2 A x8 r K R G n E I V F J S z4 Z x5 N c h Q):TT SS al [1,1,1,1] [v,w,(.pointer (some p)),x3,x4,(.bool neg),(strOf s),(strOf t),(.bool b),x9,y2,y4,y,x7,M,y9,z5,x6,y8,y6,z,q,m,L,O,z8,y1,T,H,y0,X,D,z3,f,l,d,C,z6,z2,B,o,k,x,P,j,i,y5,z7,z1,U,z0,W,u,g,y3,a,y7,Y,x2,A,x8,r,K,R,G,n,E,I,V,F,J,S,z4,Z,x5,N,c] h (EE SS al Q):=by
 have e:∀cc,vF s t neg b p cc v w x3 x4 x9 y2 y4 y x7 M y9 z5 x6 y8 y6 z q m L O z8 y1 T H y0 X D z3 f l d C z6 z2 B o k x P j i y5 z7 z1 U z0 W u g y3 a y7 Y x2 A x8 r K R G n E I V F J S z4 Z x5 N c h Q=wpS SS al.nm al.ms [1,1,1,1] (setAt [1] cc (fI [1,1,1,1] al.body)) [v,w,(.pointer (some p)),x3,x4,(.bool neg),(strOf s),(strOf t),(.bool b),x9,y2,y4,y,x7,M,y9,z5,x6,y8,y6,z,q,m,L,O,z8,y1,T,H,y0,X,D,z3,f,l,d,C,z6,z2,B,o,k,x,P,j,i,y5,z7,z1,U,z0,W,u,g,y3,a,y7,Y,x2,A,x8,r,K,R,G,n,E,I,V,F,J,S,z4,Z,x5,N,c] h (EE SS al Q):=λcc=>by kernel_rfl
 have e:=e (fI [1,1,1,1,1] al.body);have ec:(fI [1,1,1,1,1] al.body)=fI [1] (fI [1,1,1,1] al.body):=by kernel_rfl
 have es:setAt [1] (fI [1,1,1,1,1] al.body) (fI [1,1,1,1] al.body)=fI [1,1,1,1] al.body:=by rw[ec,iR]
 rw[es]at e;exact ai hx e
abbrev vG(n d:LB)(neg a:Bool)(p:Addr)(cc:Code)(x0 x1 x3 x4 x9 U V q P E Y x6 O X W r l i D G x8 T J z S L v x2 e g c u x7 Z t k f o z1 y8 y7 z7 u1 u0 z2 z9 z3 z0 y6 z6 y5 z8 z4 z5 s R m C H y j w A K x B I x5 M N F b:Value)(h:ae)(Q:VH):Prop:=au neg (au ((n:LB)==[48]) (xA (bh SS.P 155 []) λc1=>xU (ah SS.P 155 (.pointer (some p)) (.agg ⟨c1⟩) h) h λu2 g3=>dY SS [((.pointer (some p)),some 155),((.bool false),none)] g3 Q) (au a (au ((d:LB)==[48]) (xA (bh SS.P 155 []) λc4=>xU (ah SS.P 155 (.pointer (some p)) (.agg ⟨c4⟩) h) h λu5 g6=>dY SS [((.pointer (some p)),some 155),((.bool false),none)] g6 Q) (au ((d:LB)==[49]) (xA (bh SS.P 155 []) λc7=>xU (ah SS.P 155 (.pointer (some p)) (.agg ⟨c7⟩) h) h λu8 g9=>dY SS [((.pointer (some p)),some 155),((.bool false),none)] g9 Q) (wpS SS al.nm al.ms [1,1,1,1,1,1] cc [x0,x1,(.pointer (some p)),x3,x4,(.bool neg),(strOf n),(strOf d),(.bool a),x9,U,V,q,P,E,Y,x6,O,X,W,r,l,i,D,G,x8,T,J,z,S,L,v,x2,e,g,c,u,x7,Z,t,k,f,o,(.bool neg),(.bool true),(strOf n),(.bool ((n:LB)==[48])),(.bool ((n:LB)==[48])),(.bool false),(.bool a),(.bool true),(strOf d),(.bool ((d:LB)==[48])),(.bool false),(strOf d),(.bool ((d:LB)==[49])),(.bool ((d:LB)==[49])),(.bool ((d:LB)==[49])),(.bool ((d:LB)==[49])),s,R,m,C,H,y,j,w,A,K,x,B,I,x5,M,N,F,b] h (EE SS al Q)))) (wpS SS al.nm al.ms [1,1,1,1,1,1] cc [x0,x1,(.pointer (some p)),x3,x4,(.bool neg),(strOf n),(strOf d),(.bool a),x9,U,V,q,P,E,Y,x6,O,X,W,r,l,i,D,G,x8,T,J,z,S,L,v,x2,e,g,c,u,x7,Z,t,k,f,o,(.bool neg),(.bool true),(strOf n),(.bool ((n:LB)==[48])),(.bool ((n:LB)==[48])),(.bool false),(.bool a),(.bool false),undef,undef,undef,undef,undef,undef,(.bool false),(.bool false),s,R,m,C,H,y,j,w,A,K,x,B,I,x5,M,N,F,b] h (EE SS al Q)))) (au a (au ((d:LB)==[48]) (xA (bh SS.P 155 []) λy3=>xU (ah SS.P 155 (.pointer (some p)) (.agg ⟨y3⟩) h) h λy9 y0=>dY SS [((.pointer (some p)),some 155),((.bool false),none)] y0 Q) (au ((d:LB)==[49]) (xA (bh SS.P 155 []) λy2=>xU (ah SS.P 155 (.pointer (some p)) (.agg ⟨y2⟩) h) h λy4 y1=>dY SS [((.pointer (some p)),some 155),((.bool false),none)] y1 Q) (wpS SS al.nm al.ms [1,1,1,1,1,1] cc [x0,x1,(.pointer (some p)),x3,x4,(.bool neg),(strOf n),(strOf d),(.bool a),x9,U,V,q,P,E,Y,x6,O,X,W,r,l,i,D,G,x8,T,J,z,S,L,v,x2,e,g,c,u,x7,Z,t,k,f,o,(.bool neg),(.bool false),undef,undef,(.bool false),(.bool false),(.bool a),(.bool true),(strOf d),(.bool ((d:LB)==[48])),(.bool false),(strOf d),(.bool ((d:LB)==[49])),(.bool ((d:LB)==[49])),(.bool ((d:LB)==[49])),(.bool ((d:LB)==[49])),s,R,m,C,H,y,j,w,A,K,x,B,I,x5,M,N,F,b] h (EE SS al Q)))) (wpS SS al.nm al.ms [1,1,1,1,1,1] cc [x0,x1,(.pointer (some p)),x3,x4,(.bool neg),(strOf n),(strOf d),(.bool a),x9,U,V,q,P,E,Y,x6,O,X,W,r,l,i,D,G,x8,T,J,z,S,L,v,x2,e,g,c,u,x7,Z,t,k,f,o,(.bool neg),(.bool false),undef,undef,(.bool false),(.bool false),(.bool a),(.bool false),undef,undef,undef,undef,undef,undef,(.bool false),(.bool false),s,R,m,C,H,y,j,w,A,K,x,B,I,x5,M,N,F,b] h (EE SS al Q)))
theorem Dh{neg:Bool}{p:Addr}{x3 x4 x9 y2 y4 y x7 M y9 z5 x6 y8 y6 z q m L O z8 y1 T H y0 X D z3 f l d C z6 z2 B o k x P j i y5 z7 z1 U z0 W u g y3 a y7 Y x2 A x8 r K R G n E I V F J S z4 Z x5 N c:Value}(hx:vG s t neg b p (fI [1,1,1,1,1,1] al.body) v w x3 x4 x9 y2 y4 y x7 M y9 z5 x6 y8 y6 z q m L O z8 y1 T H y0 X D z3 f l d C z6 z2 B o k x P j i y5 z7 z1 U z0 W u g y3 a y7 Y x2 A x8 r K R G n E I V F J S z4 Z x5 N c h Q):TT SS al [1,1,1,1,1] [v,w,(.pointer (some p)),x3,x4,(.bool neg),(strOf s),(strOf t),(.bool b),x9,y2,y4,y,x7,M,y9,z5,x6,y8,y6,z,q,m,L,O,z8,y1,T,H,y0,X,D,z3,f,l,d,C,z6,z2,B,o,k,x,P,j,i,y5,z7,z1,U,z0,W,u,g,y3,a,y7,Y,x2,A,x8,r,K,R,G,n,E,I,V,F,J,S,z4,Z,x5,N,c] h (EE SS al Q):=by
 have e:∀cc,vG s t neg b p cc v w x3 x4 x9 y2 y4 y x7 M y9 z5 x6 y8 y6 z q m L O z8 y1 T H y0 X D z3 f l d C z6 z2 B o k x P j i y5 z7 z1 U z0 W u g y3 a y7 Y x2 A x8 r K R G n E I V F J S z4 Z x5 N c h Q=wpS SS al.nm al.ms [1,1,1,1,1] (setAt [1] cc (fI [1,1,1,1,1] al.body)) [v,w,(.pointer (some p)),x3,x4,(.bool neg),(strOf s),(strOf t),(.bool b),x9,y2,y4,y,x7,M,y9,z5,x6,y8,y6,z,q,m,L,O,z8,y1,T,H,y0,X,D,z3,f,l,d,C,z6,z2,B,o,k,x,P,j,i,y5,z7,z1,U,z0,W,u,g,y3,a,y7,Y,x2,A,x8,r,K,R,G,n,E,I,V,F,J,S,z4,Z,x5,N,c] h (EE SS al Q):=λcc=>by kernel_rfl
 have e:=e (fI [1,1,1,1,1,1] al.body);have ec:(fI [1,1,1,1,1,1] al.body)=fI [1] (fI [1,1,1,1,1] al.body):=by kernel_rfl
 have es:setAt [1] (fI [1,1,1,1,1,1] al.body) (fI [1,1,1,1,1] al.body)=fI [1,1,1,1,1] al.body:=by rw[ec,iR]
 rw[es]at e;exact ai hx e
abbrev vH(n d:LB)(neg t:Bool)(p:Addr)(cc:Code)(x0 x1 x3 x4 x9 z9 W w S E x6 y3 R x5 Z x s q D G y6 U I C T L B y1 i o g A y4 y0 z r m v H l k Y y5 x8 J x7 K u j V e x2 M O y z8 y8 z4 z5 z1 y7 y9 z2 z7 z0 z3 z6 y2 N P F f:Value)(h:ae)(Q:VH):Prop:=FW SS 175 [(strOf n),(strOf d)] h λv1 c=>∃a:LB,∃b:Int,v1=(.tuple ⟨[(strOf a),(.int .i64 b)]⟩)/\au (((b:Int) !=0)) (xA (bh SS.P 155 []) λc5=>xU (ah SS.P 155 (.pointer (some p)) (.agg ⟨c5⟩) c) c λu6 g7=>dY SS [((.pointer (some p)),some 155),((.bool false),none)] g7 Q) (au (!((a:LB)==[49])) (xA (bh SS.P 155 []) λc8=>xU (ah SS.P 155 (.pointer (some p)) (.agg ⟨c8⟩) c) c λu9 X=>dY SS [((.pointer (some p)),some 155),((.bool false),none)] X Q) (wpS SS al.nm al.ms [1,1,1,1,1,1,1] cc [x0,x1,(.pointer (some p)),x3,x4,(.bool neg),(strOf n),(strOf d),(.bool t),(strOf a),(.int .i64 b),W,w,S,E,x6,y3,R,x5,Z,x,s,q,D,G,y6,U,I,C,T,L,B,y1,i,o,g,A,y4,y0,z,r,m,v,H,l,k,Y,y5,x8,J,x7,K,u,j,V,e,x2,M,O,y,(.tuple ⟨[(strOf a),(.int .i64 b)]⟩),(strOf n),(strOf d),(.tuple ⟨[(strOf a),(.int .i64 b)]⟩),(strOf a),(.int .i64 b),(.int .i64 b),(.bool (((b:Int) !=0))),(.bool false),(strOf a),(.bool (!((a:LB)==[49]))),(.bool (!((a:LB)==[49]))),y2,N,P,F,f] c (EE SS al Q)))
theorem Di{neg:Bool}{p:Addr}{x3 x4 x9 y2 y4 y x7 M y9 z5 x6 y8 y6 z q m L O z8 y1 T H y0 X D z3 f l d C z6 z2 B o k x P j i y5 z7 z1 U z0 W u g y3 a y7 Y x2 A x8 r K R G n E I V F J S z4 Z x5 N c:Value}(hx:vH s t neg b p (fI [1,1,1,1,1,1,1] al.body) v w x3 x4 x9 y2 y4 y x7 M y9 z5 x6 y8 y6 z q m L O z8 y1 T H y0 X D z3 f l d C z6 z2 B o k x P j i y5 z7 z1 U z0 W u g y3 a y7 Y x2 A x8 r K R G n E I V F J S z4 Z x5 N c h Q):TT SS al [1,1,1,1,1,1] [v,w,(.pointer (some p)),x3,x4,(.bool neg),(strOf s),(strOf t),(.bool b),x9,y2,y4,y,x7,M,y9,z5,x6,y8,y6,z,q,m,L,O,z8,y1,T,H,y0,X,D,z3,f,l,d,C,z6,z2,B,o,k,x,P,j,i,y5,z7,z1,U,z0,W,u,g,y3,a,y7,Y,x2,A,x8,r,K,R,G,n,E,I,V,F,J,S,z4,Z,x5,N,c] h (EE SS al Q):=by
 have e:∀cc,vH s t neg b p cc v w x3 x4 x9 y2 y4 y x7 M y9 z5 x6 y8 y6 z q m L O z8 y1 T H y0 X D z3 f l d C z6 z2 B o k x P j i y5 z7 z1 U z0 W u g y3 a y7 Y x2 A x8 r K R G n E I V F J S z4 Z x5 N c h Q=wpS SS al.nm al.ms [1,1,1,1,1,1] (setAt [1] cc (fI [1,1,1,1,1,1] al.body)) [v,w,(.pointer (some p)),x3,x4,(.bool neg),(strOf s),(strOf t),(.bool b),x9,y2,y4,y,x7,M,y9,z5,x6,y8,y6,z,q,m,L,O,z8,y1,T,H,y0,X,D,z3,f,l,d,C,z6,z2,B,o,k,x,P,j,i,y5,z7,z1,U,z0,W,u,g,y3,a,y7,Y,x2,A,x8,r,K,R,G,n,E,I,V,F,J,S,z4,Z,x5,N,c] h (EE SS al Q):=λcc=>by kernel_rfl
 have e:=e (fI [1,1,1,1,1,1,1] al.body);have ec:(fI [1,1,1,1,1,1,1] al.body)=fI [1] (fI [1,1,1,1,1,1] al.body):=by kernel_rfl
 have es:setAt [1] (fI [1,1,1,1,1,1,1] al.body) (fI [1,1,1,1,1,1] al.body)=fI [1,1,1,1,1,1] al.body:=by rw[ec,iR]
 rw[es]at e;exact ai hx e
theorem Dj{neg r:Bool}{p:Addr}{x3 x4 x9 y3 y5 z x8 N z0 z6 x7 y9 y7 A q m M P z9 y2 U I y1 Y E z4 f l e D z7 z3 C o k y R j i y6 z8 z2 V z1 X x g y4 c y8 Z x5 B y0 u L S H n F J W G K T z5 x2 x6 O d:Value}(hx:xA (bh SS.P 155 [(0,(.bool neg)),(1,(strOf s)),(2,(strOf t))]) λb=>xU (ah SS.P 155 (.pointer (some p)) (.agg ⟨b⟩) h) h λ_ a=>dY SS [((.pointer (some p)),some 155),((.bool true),none)] a Q):TT SS al [1,1,1,1,1,1,1] [v,w,(.pointer (some p)),x3,x4,(.bool neg),(strOf s),(strOf t),(.bool r),x9,y3,y5,z,x8,N,z0,z6,x7,y9,y7,A,q,m,M,P,z9,y2,U,I,y1,Y,E,z4,f,l,e,D,z7,z3,C,o,k,y,R,j,i,y6,z8,z2,V,z1,X,x,g,y4,c,y8,Z,x5,B,y0,u,L,S,H,n,F,J,W,G,K,T,z5,x2,x6,O,d] h (EE SS al Q):=ai hx
noncomputable def Mu:FD:=cG Tryz.f109 []
theorem JZ(l:LB)(h:ae)(Q:VH)(e:FW SS 145 [(strOf l)] h λc d=>∃b:LV,∃a:Bool,c=(.tuple ⟨[(.agg ⟨b⟩),(.bool a)]⟩)/\Q (.bool a) d):FW SS 109 [(strOf l)] h Q:=cQ Mu Tryz.func109 (ai e)
noncomputable def Qw:FD:=cG Tryz.f141 []
theorem Mt(p:Bool)(l:LB)(q:Bool)(m:LB)(h:ae)(Q:VH)(k:au (p==q) (FW SS 168 [(strOf l),(strOf m)] h λf g=>∃e:LB,∃d:Int,f=(.tuple ⟨[(strOf e),(.int .i64 d)]⟩)/\FW SS 142 [(strOf e),(.int .i64 d)] g λb c=>yS b λa=>Q (.tuple ⟨[(.bool p),(strOf a)]⟩) c) (FW SS 169 [(strOf l),(strOf m)] h λi j=>yI .i64 i λh=>au (decide ((h:Int)<0)) (FW SS 170 [(strOf m),(strOf l)] j λf g=>∃e:LB,∃d:Int,f=(.tuple ⟨[(strOf e),(.int .i64 d)]⟩)/\FW SS 142 [(strOf e),(.int .i64 d)] g λb c=>yS b λa=>Q (.tuple ⟨[(.bool q),(strOf a)]⟩) c) (FW SS 170 [(strOf l),(strOf m)] j λf g=>∃e:LB,∃d:Int,f=(.tuple ⟨[(strOf e),(.int .i64 d)]⟩)/\FW SS 142 [(strOf e),(.int .i64 d)] g λb c=>yS b λa=>Q (.tuple ⟨[(.bool p),(strOf a)]⟩) c))):FW SS 141 [(.bool p),(strOf l),(.bool q),(strOf m)] h Q:=cQ Qw Tryz.func141 (ai k)
noncomputable def UB:FD:=cG Tryz.f149 []
theorem Qq(l m:LB)(h:ae)(Q:VH)(N:FW SS 145 [(strOf l)] h λP D=>∃F:LV,∃H:Bool,P=(.tuple ⟨[(.agg ⟨F⟩),(.bool H)]⟩)/\xN (br SS.P 155) D λ_ I=>xU (ah SS.P 155 (pA (D.next)) (.agg ⟨F⟩) I) I λ_ M=>FW SS 145 [(strOf m)] M λO C=>∃J:LV,∃G:Bool,O=(.tuple ⟨[(.agg ⟨J⟩),(.bool G)]⟩)/\xN (br SS.P 155) C λ_ K=>xU (ah SS.P 155 (pA (C.next)) (.agg ⟨J⟩) K) K λ_ B=>au (!H) (Q (.int .i64 0) B) (au (!G) (Q (.int .i64 0) B) (fP 155 (pA (D.next)) 0 λE=>lB (room B 27) E λA=>fP 155 (pA (D.next)) 1 λR=>lS (room B 27) R λL=>fP 155 (pA (C.next)) 2 λz=>lS (room B 27) z λy=>FW SS 143 [(strOf L),(strOf y)] (room B 27) λw x=>∃v:LB,∃u:Int,w=(.tuple ⟨[(strOf v),(.int .i64 u)]⟩)/\FW SS 142 [(strOf v),(.int .i64 u)] x λs t=>yS s λr=>fP 155 (pA (C.next)) 0 λq=>lB t q λp=>fP 155 (pA (C.next)) 1 λo=>lS t o λn=>fP 155 (pA (D.next)) 2 λm=>lS t m λl=>FW SS 143 [(strOf n),(strOf l)] t λj k=>∃i:LB,∃h:Int,j=(.tuple ⟨[(strOf i),(.int .i64 h)]⟩)/\FW SS 142 [(strOf i),(.int .i64 h)] k λf g=>yS f λe=>FW SS 141 [(.bool A),(strOf r),(.bool (!p)),(strOf e)] g λc d=>∃b:Bool,∃a:LB,c=(.tuple ⟨[(.bool b),(strOf a)]⟩)/\(aj SS.P 4 x (.pointer (some E))=some (.bool A)/\dG 4 (.bool A) (.bool A)=true)/\(aj SS.P 4 t (.pointer (some E))=some (.bool A)/\dG 4 (.bool A) (.bool A)=true)/\(aj SS.P 4 k (.pointer (some E))=some (.bool A)/\dG 4 (.bool A) (.bool A)=true)/\(aj SS.P 4 g (.pointer (some E))=some (.bool A)/\dG 4 (.bool A) (.bool A)=true)/\(aj SS.P 4 (room B 27) (.pointer (some q))=some (.bool p)/\dG 4 (.bool p) (.bool p)=true)/\(aj SS.P 4 x (.pointer (some q))=some (.bool p)/\dG 4 (.bool p) (.bool p)=true)/\(aj SS.P 4 k (.pointer (some q))=some (.bool p)/\dG 4 (.bool p) (.bool p)=true)/\(aj SS.P 4 g (.pointer (some q))=some (.bool p)/\dG 4 (.bool p) (.bool p)=true)/\(aj SS.P 9 (room B 27) (.pointer (some o))=some (strOf n)/\dG 4 (strOf n) (strOf n)=true)/\(aj SS.P 9 x (.pointer (some o))=some (strOf n)/\dG 4 (strOf n) (strOf n)=true)/\(aj SS.P 9 (room B 27) (.pointer (some m))=some (strOf l)/\dG 4 (strOf l) (strOf l)=true)/\(aj SS.P 9 x (.pointer (some m))=some (strOf l)/\dG 4 (strOf l) (strOf l)=true)/\au ((a:LB)==[48]) (Q (.int .i64 0) d) (au b (Q (.int .i64 (-1)) d) (Q (.int .i64 1) d))))):FW SS 149 [(strOf l),(strOf m)] h Q:=cQ UB Tryz.func149 (ai N)
noncomputable def Tf:FD:=cG Tryz.f204 []
theorem Pk(l m:LB)(h:ae)(Q:VH)(b:au (decide ((((l:LB).length:Int):Int)>=((m:LB).length:Int))) (xS (bG SS.P 9 (strOf l) none (some (.int .i64 ((m:LB).length:Int))) none h) λa=>Q (.bool ((a:LB)==m)) h) (Q (.bool false) h)):FW SS 204 [(strOf l),(strOf m)] h Q:=cQ Tf Tryz.func204 (ai b)
noncomputable def gC:FD:=cG Tryz.f171 [([1,1,0,1,0,0],[0,22,23])]
abbrev mG(l:LB)(i:Int):LV:=[(strOf l),(.int .i64 (l.length:Int)),(.int .i64 i)]
theorem AO(l:LB)(h:ae)(Q:VH)(b:au ((l:LB)==[]) (Q (.bool false) h) (au (decide ((((l:LB).length:Int):Int)>1000)) (Q (.bool false) h) (au (decide ((((l:LB).length:Int):Int)>1)) (xI .u8 (bP SS.P 9 (strOf l) (.int .i64 0)) λa=>au (((a:Int)==48)) (Q (.bool false) h) (LL SS gC [1,1,0,1,0,0] [(strOf l),(.int .i64 ((l:LB).length:Int)),(.int .i64 0)] h (KK SS gC [1,1,0,1,0] [] (EE SS gC Q)))) (LL SS gC [1,1,0,1,0,0] [(strOf l),(.int .i64 ((l:LB).length:Int)),(.int .i64 0)] h (KK SS gC [1,1,0,1,0] [] (EE SS gC Q)))))):FW SS 171 [(strOf l)] h Q:=cQ gC Tryz.func171 (ai b)
theorem vd(l:LB)  (d:Nat->Int->ae->Prop) (Q:VH) (step:∀(c:Nat)(i:Int)(f:Nat->Value)(h:ae),d c i h->au (decide ((i:Int)<(l.length:Int))) (xI .u8 (bP SS.P 9 (strOf l) (.int .i64 i)) λb=>au (decide ((b:Int)<48)) (Q (.bool false) h) (xI .u8 (bP SS.P 9 (strOf l) (.int .i64 i)) λa=>au (decide ((a:Int)>57)) (Q (.bool false) h) (aI (fj (mG l) d) c [(strOf l),(.int .i64 (l.length:Int)),(.int .i64 (wrap .i64 (i+1)))] h))) (Q (.bool true) h)) (c:Nat) {i:Int} {h:ae} (e:d c i h):LL SS gC [1,1,0,1,0,0] (mG l i) h (KK SS gC [1,1,0,1,0] [] (EE SS gC Q)):=
 dg (mG l) d (λc i f h e=>ai (step c i f h e)) c e
noncomputable def gF:FD:=cG Tryz.f136 [([1,1,0,1,0,0],[0,3])]
abbrev gV(l:LB)(i:Int):LV:=[(strOf l),(.int .i64 i)]
theorem AT(l:LB)(h:ae)(Q:VH)(b:au (decide ((((l:LB).length:Int):Int)<1)) (Q (.bool false) h) (au (decide ((((l:LB).length:Int):Int)>1000)) (Q (.bool false) h) (xI .u8 (bP SS.P 9 (strOf l) (.int .i64 0)) λa=>au (((a:Int)==48)) (au (decide ((((l:LB).length:Int):Int)>1)) (Q (.bool false) h) (LL SS gF [1,1,0,1,0,0] (gV l 0) h (KK SS gF [1,1,0,1,0] [] (EE SS gF Q)))) (LL SS gF [1,1,0,1,0,0] (gV l 0) h (KK SS gF [1,1,0,1,0] [] (EE SS gF Q)))))):FW SS 136 [(strOf l)] h Q:=cQ gF Tryz.func136 (ai b)
theorem vf(l:LB)  (d:Nat->Int->ae->Prop) (Q:VH) (step:∀(c:Nat)(i:Int)(f:Nat->Value)(h:ae),d c i h->au (decide ((i:Int)<((l:LB).length:Int))) (xI .u8 (bP SS.P 9 (strOf l) (.int .i64 i)) λb=>au (decide ((b:Int)<48)) (Q (.bool false) h) (xI .u8 (bP SS.P 9 (strOf l) (.int .i64 i)) λa=>au (decide ((a:Int)>57)) (Q (.bool false) h) (aI (fj (gV l) d) c [(strOf l),(.int .i64 (wrap .i64 (i+1)))] h))) (Q (.bool true) h)) (c:Nat) {i:Int} {h:ae} (e:d c i h):LL SS gF [1,1,0,1,0,0] (gV l i) h (KK SS gF [1,1,0,1,0] [] (EE SS gF Q)):=
 dg (gV l) d (λc i f h e=>ai (step c i f h e)) c e
noncomputable def iz:FD:=cG Tryz.f154 [([1,1,0,1,0,0],[0,1,5])]
abbrev iB(a b:LB)(i:Int):LV:=[(strOf a),(strOf b),(.int .i64 i)]
theorem EK(a b:LB)(h:ae)(Q:VH)(c:au (((((a:LB).length:Int):Int) !=((b:LB).length:Int))) (au (decide ((((a:LB).length:Int):Int)<((b:LB).length:Int))) (Q (.int .i64 (-1)) h) (Q (.int .i64 1) h)) (LL SS iz [1,1,0,1,0,0] (iB a b 0) h (KK SS iz [1,1,0,1,0] [] (EE SS iz Q)))):FW SS 154 [(strOf a),(strOf b)] h Q:=cQ iz Tryz.func154 (ai c)
theorem sV(a b:LB)  (g:Nat->Int->ae->Prop) (Q:VH) (step:∀(f:Nat)(i:Int)(k:Nat->Value)(h:ae),g f i h->au (decide ((i:Int)<((a:LB).length:Int))) (xI .u8 (bP SS.P 9 (strOf a) (.int .i64 i)) λe=>xI .u8 (bP SS.P 9 (strOf b) (.int .i64 i)) λd=>au (((e:Int) !=d)) (xI .u8 (bP SS.P 9 (strOf a) (.int .i64 i)) λc=>xI .u8 (bP SS.P 9 (strOf b) (.int .i64 i)) λa=>au (decide ((c:Int)<a)) (Q (.int .i64 (-1)) (room (room h 7) 7)) (Q (.int .i64 1) (room (room h 7) 7))) (aI (fj (iB a b) g) f [(strOf a),(strOf b),(.int .i64 (wrap .i64 (i+1)))] (room h 7))) (Q (.int .i64 0) h)) (f:Nat) {i:Int} {h:ae} (j:g f i h):LL SS iz [1,1,0,1,0,0] (iB a b i) h (KK SS iz [1,1,0,1,0] [] (EE SS iz Q)):=
 dg (iB a b) g (λf i k h j=>ai (step f i k h j)) f j
noncomputable def Yr:FD:=cG Tryz.f151 []
theorem UL(a:OA)(n c:Nat)(i:Int)(h:ae)(Q:VH)(d:au (decide ((i:Int)<(n:Int))) (iP 22 (.slice a n c) (.int .i64 i) λb=>lI h b λa=>Q (.int .i64 a) h) (Q (.int .i64 0) h)):FW SS 151 [(.slice a n c),(.int .i64 i)] h Q:=cQ Yr Tryz.func151 (ai d)
noncomputable def jD:FD:=cG Tryz.f150 [([1,1,0,1,0,0],[0,3,4])]
abbrev lY(l:LB)(i:Int)(a:OA)(n c:Nat):LV:=[(strOf l),(.slice a n c),(.int .i64 i)]
theorem HI(l:LB)(h:ae)(Q:VH)(a:LL SS jD [1,1,0,1,0,0] [(strOf l),nA,(.int .i64 (wrap .i64 (((l:LB).length:Int)-1)))] h (KK SS jD [1,1,0,1,0] [] (EE SS jD Q))):FW SS 150 [(strOf l)] h Q:=cQ jD Tryz.func150 (ai a)
theorem tN(l:LB)  (m:Nat->Int->OA->Nat->Nat->ae->Prop) (Q:VH) (step:∀(k:Nat)(i:Int)(a:OA)(n c:Nat)(p:Nat->Value)(h:ae),m k i a n c h->au (decide ((i:Int)>=0)) (xI .u8 (bP SS.P 9 (strOf l) (.int .i64 i)) λj=>xR (aF SS.P 22 1 [(0,(.int .i64 (wrap .i64 (wrap .u8 (j-48)))))]) h λ_ e f g=>xE (bI SS.P 22 22 (.slice a n c) (sA (h.next) e f) g) g λa b c _ d=>aI (Zg (lY l) m) k [(strOf l),(.slice a b c),(.int .i64 (wrap .i64 (i-1)))] d) (Q (.slice a n c) h)) (k:Nat) {i:Int} {a:OA} {n c:Nat} {h:ae} (o:m k i a n c h):LL SS jD [1,1,0,1,0,0] (lY l i a n c) h (KK SS jD [1,1,0,1,0] [] (EE SS jD Q)):=
 UY (lY l) m (λk i a n c p h o=>ai (step k i a n c p h o)) k o
variable{i:Nat}{a:Option Addr}{n:Nat}{x:List Nat}
theorem YP:SS.P.underlying 9=some .string:=by kernel_rfl
theorem Be(l:List UInt8){h:ae}{i:Int}(b:0<=i)(a:i<l.length):bP SS.P 9 (strOf l) (.int .i64 i)=some (.int .u8 ((l.getD i.toNat 0).toNat:Nat)):=oz YP l _ b a
theorem SU{c:UInt8}(a:¬(c.toNat:Int)<48)(b:¬(c.toNat:Int)>57):bR c=true:=by
 unfold bR;simp;omega
theorem Hm{c:UInt8}(h:(c.toNat:Int)<48\/(c.toNat:Int)>57):bR c=false:=by
 unfold bR;simp;omega
theorem vt(b:i<s.length)(c:(s.take i).all bR=true)(a:bR (s.getD i 0)=true):(s.take (i+1)).all bR=true:=by
 rw[List.take_succ_eq_append_getElem b,List.all_append,c];rw[gD,gE b]at a;simpa using a
theorem um(b:i<s.length)(a:bR (s.getD i 0)=false):s.all bR=false:=by
 rw[gD,gE b]at a;exact List.all_eq_false.2 ⟨s[i],getElem_mem b,by simpa using a⟩
theorem DN(h:1000<s.length):Num.valid s=false:=by
 unfold Num.valid;rw[decide_eq_false (by omega:¬s.length<=1000)];simp
theorem DO(h:1<s.length)(b:s.getD 0 0=48):Num.valid s=false:=by
 unfold Num.valid
 cases s with
 |nil=>rfl
 |cons a s=>
  have b:a=48:=b;subst b;rw[decide_eq_true h];simp
theorem uR(e:s≠[])(c:s.length<=1000)(d:1<s.length->s.getD 0 0≠48):Num.valid s=s.all bR:=by
 unfold Num.valid
 cases s with
 |nil=>exact absurd rfl e
 |cons a s=>
  rw[decide_eq_true c];by_cases h:1<(a::s).length
  ·have b:a≠48:=d h;rw[decide_eq_true h];simp[b]
  ·rw[decide_eq_false h];simp
theorem Gk{c:UInt8}:((c.toNat:Int)==48)=true↔c=48:=by
 rw[beq_iff_eq];refine⟨λh=>UInt8.toNat_inj.1 ?_,λh=>by rw[h];rfl⟩;have a:(48:UInt8).toNat=48:=rfl;omega
theorem dI(l:List UInt8)(h:ae):FW SS 171 [strOf l] h (λv o=>v = .bool (Num.valid l)/\o=h):=by
 by_cases j:l.length<=1000
 case neg=>
  refine AO l h _ (aa (λa=>?_) (λa=>aa (λd=>?_) (λd=>?_)))
  ·obtain rfl:l=[]:=by simpa using a
   exact⟨rfl,rfl⟩
  ·exact⟨by rw[DN (by omega)],rfl⟩
  ·have:=dF d;omega
 have L:=λ(n:Num.valid l=l.all bR)=>vd l (λm i g=>0<=i/\i<=l.length/\m=l.length-i.toNat/\(l.take i.toNat).all bR=true/\g=h) (λv o=>v = .bool (Num.valid l)/\o=h) (by
  intro m i;intros;rename_i g t;obtain⟨a,d,k,b,rfl⟩:=t;refine aa (λc=>?_) (λc=>?_)
  ·have c:=dT c;have f:i.toNat<l.length:=by omega
   refine⟨_,Be (h:=g) l a c,aa (λq=>?_) (λq=>⟨_,Be (h:=g) l a c,aa (λp=>?_) (λp=>?_)⟩)⟩
   ·exact⟨by rw[n,um f (Hm (.inl (dT q)))],rfl⟩
   ·exact⟨by rw[n,um f (Hm (.inr (dT p)))],rfl⟩
   ·have s:wrap .i64 (i+1)=i+1:=aB (by omega) (by omega);refine bZ (m-1) (by omega) ?_;rw[s];refine⟨by omega,by omega,by omega,?_,rfl⟩;rw[show(i+1).toNat=i.toNat+1 by omega];exact vt f b (SU (dF q) (dF p))
  ·have c:=dF c;refine⟨?_,rfl⟩;rw[n,<-b,take_of_length_le (by omega)])
 refine AO l h _ (aa (λa=>?_) (λa=>aa (λd=>?_) (λd=>?_)))
 ·obtain rfl:l=[]:=by simpa using a
  exact⟨rfl,rfl⟩
 ·have:=dT d;omega
 ·have a:l≠[]:=by simpa using a
  have r:=List.length_pos_iff.2 a;refine aa (λk=>⟨_,Be (h:=h) l (by omega) (by omega),aa (λb=>?_) (λb=>?_)⟩) (λk=>?_)
  ·exact⟨by rw[DO (by have:=dT k;omega) (Gk.1 b)],rfl⟩
  ·exact L (uR a j λ_ e=>by have b:(((l.getD 0 0).toNat:Int)==48)=false:=b;rw[Gk.2 e]at b;cases b) l.length ⟨by omega,by omega,by simp,by simp,rfl⟩
  ·exact L (uR a j λe=>by have:=dF k;omega) l.length ⟨by omega,by omega,by simp,by simp,rfl⟩
theorem dt(l:List UInt8)(h:ae):FW SS 136 [strOf l] h (λv o=>v = .bool (Num.valid l)/\o=h):=by
 by_cases j:l.length<=1000
 case neg=>
  refine AT l h _ (aa (λa=>?_) (λa=>aa (λd=>?_) (λd=>?_)))
  ·have a:=dT a;omega
  ·exact⟨by rw[DN (by omega)],rfl⟩
  ·have:=dF d;omega
 have L:=λ(n:Num.valid l=l.all bR)=>vf l (λm i g=>0<=i/\i<=l.length/\m=l.length-i.toNat/\(l.take i.toNat).all bR=true/\g=h) (λv o=>v = .bool (Num.valid l)/\o=h) (by
  intro m i;intros;rename_i g t;obtain⟨a,d,k,b,rfl⟩:=t;refine aa (λc=>?_) (λc=>?_)
  ·have c:=dT c;have f:i.toNat<l.length:=by omega
   refine⟨_,Be (h:=g) l a c,aa (λq=>?_) (λq=>⟨_,Be (h:=g) l a c,aa (λp=>?_) (λp=>?_)⟩)⟩
   ·exact⟨by rw[n,um f (Hm (.inl (dT q)))],rfl⟩
   ·exact⟨by rw[n,um f (Hm (.inr (dT p)))],rfl⟩
   ·have s:wrap .i64 (i+1)=i+1:=aB (by omega) (by omega);refine bZ (m-1) (by omega) ?_;rw[s];refine⟨by omega,by omega,by omega,?_,rfl⟩;rw[show(i+1).toNat=i.toNat+1 by omega];exact vt f b (SU (dF q) (dF p))
  ·have c:=dF c;refine⟨?_,rfl⟩;rw[n,<-b,take_of_length_le (by omega)])
 refine AT l h _ (aa (λa=>?_) (λa=>aa (λd=>?_) (λd=>?_)))
 ·have a:=dT a;obtain rfl:l=[]:=List.eq_nil_of_length_eq_zero (by omega);exact⟨rfl,rfl⟩
 ·have:=dT d;omega
 ·have a:=dF a;have a:l≠[]:=λe=>by subst e;simp at a
  have r:=List.length_pos_iff.2 a;refine⟨_,Be (h:=h) l (by omega) (by omega),aa (λb=>aa (λk=>?_) (λk=>?_)) (λb=>?_)⟩
  ·exact⟨by rw[DO (by have:=dT k;omega) (Gk.1 b)],rfl⟩
  ·exact L (uR a j λe=>by have:=dF k;omega) l.length ⟨by omega,by omega,by simp,by simp,rfl⟩
  ·exact L (uR a j λ_ e=>by have b:(((l.getD 0 0).toNat:Int)==48)=false:=b;rw[Gk.2 e]at b;cases b) l.length ⟨by omega,by omega,by simp,by simp,rfl⟩
theorem L7{a b:Nat}(h:((a:Int) !=b)=true):a≠b:=by
 intro e;subst e;simp at h
theorem LA{a b:Nat}(h:((a:Int) !=b)=false):a=b:=by
 by_cases e:a=b
 ·exact e
 ·exfalso;have:(a:Int)≠b:=by omega
  simp[this]at h
theorem qo(m n:Nat)(y:(ag m).length<9223372036854775807)(x:(ag n).length<9223372036854775807)(h:ae)(w:Wf h):FW SS 154 [strOf (ag m),strOf (ag n)] h (λv q=>v = .int .i64 (eG m n)/\Ok h q):=by
 have L:=λ(s:(ag m).length=(ag n).length)=>sV (ag m) (ag n) (λk i g=>0<=i/\i<=(ag m).length/\k=(ag m).length-i.toNat/\(ag m).take i.toNat=(ag n).take i.toNat/\Ok h g) (λv q=>v = .int .i64 (eG m n)/\Ok h q) (by
  intro k i;intros;rename_i g u;obtain⟨a,f,z,e,j⟩:=u;refine aa (λb=>?_) (λb=>?_)
  ·have b:=dT b;have r:i.toNat<(ag m).length:=by omega
   have p:i.toNat<(ag n).length:=by omega
   have l:(ag m)[i.toNat]?=some ((ag m).getD i.toNat 0):=by rw[gD,gE r];rfl
   have o:(ag n)[i.toNat]?=some ((ag n).getD i.toNat 0):=by rw[gD,gE p];rfl
   refine⟨_,Be (h:=g) _ a b,_,Be (h:=g) _ a (by omega),aa (λc=>?_) (λc=>?_)⟩
   ·refine⟨_,Be (h:=g) _ a b,_,Be (h:=g) _ a (by omega),aa (λd=>?_) (λd=>?_)⟩
    ·have d:=dT d;have:=oO (cY n) (cY m) s e l o (UInt8.lt_iff_toNat_lt.2 (by omega));rw[bu,bu]at this;exact⟨by rw[lj this],(j.room 7).room 7⟩
    ·have d:=dF d;have c:=L7 c;have:=oO (cY m) (cY n) s.symm e.symm o l (UInt8.lt_iff_toNat_lt.2 (by omega));rw[bu,bu]at this;exact⟨by rw[lh this],(j.room 7).room 7⟩
   ·have c:=LA c;have t:wrap .i64 (i+1)=i+1:=aB (by omega) (by omega);refine bZ (k-1) (by omega) ?_;rw[t];refine⟨by omega,by omega,by omega,?_,j.room 7⟩;rw[show(i+1).toNat=i.toNat+1 by omega,List.take_add_one,List.take_add_one,e,l,o,UInt8.toNat_inj.1 c]
  ·have b:=dF b;rw[take_of_length_le (by omega),take_of_length_le (by omega)]at e;exact⟨by rw[tf e,qw],j⟩)
 refine EK _ _ h _ (aa (λa=>aa (λf=>?_) (λf=>?_)) (λa=>?_))
 ·exact⟨by rw[lj (lO (by have:=dT f;omega))],Ok.refl w⟩
 ·have a:=L7 a;exact⟨by rw[lh (lO (by have:=dF f;omega))],Ok.refl w⟩
 ·have a:=LA a;exact L a (ag m).length ⟨by omega,by omega,by simp,by simp,Ok.refl w⟩
def iv(d:Nat):Value:= .int .i64 (d:Int)
theorem qp:SS.P.underlying 22=some (.slice 3):=by kernel_rfl
theorem Ru:aE SS.P 3=some 1:=by kernel_rfl
theorem Gm:SS.P.underlying 3=some (.int .i64):=by kernel_rfl
theorem Fa:Go.Ab.isAgg SS.P 3=false:=by kernel_rfl
noncomputable def re3:TypeInfo:=(eS SS.P 3).getD default
theorem UH:eS SS.P 3=some re3:=by kernel_rfl
theorem J1:re3.size=1:=by kernel_rfl
theorem FQ:re3.bytes=8:=by kernel_rfl
theorem tr(l:List Nat)(i:Nat)(h:i<l.length):(l.map iv).getD i undef = .int .i64 (l.getD i 0:Nat):=by
 simp[gD,getElem?_map,gE h,iv]
theorem tL{c:Nat}(r:Rd h 3 (.slice a n c) (x.map iv))(i:Nat):FW SS 151 [.slice a n c,.int .i64 (i:Int)] h (λv g=>v = .int .i64 (x.getD i 0:Nat)/\g=h):=by
 have e:=r.len;rw[lM]at e;refine UL a n c i h _ (aa (λb=>?_) (λb=>?_))
 ·have b:=dT b;obtain⟨p,f,d⟩:=r.at_ qp Ru Gm Fa (k:= .i64) (i:=(i:Int)) (by omega) (by rw[lM];omega);rw[Int.toNat_natCast,tr x i (by omega)]at d;exact⟨p,f,_,d,rfl,rfl⟩
 ·have b:=dF b;refine⟨?_,rfl⟩;rw[gD,List.getElem?_eq_none (by omega)];rfl
noncomputable def mJ:FD:=cG Tryz.f155 [([1,1,1,0,1,0,0],[0,1,5,6,7])]
abbrev iJ(a:OA)(n c:Nat)(b:OA)(m d:Nat)(k cc:Nat)(r:OA)(e f:Nat):LV:=[(.slice a n c),(.slice b m d),(.slice r e f),(iA cc),(iA k)]
theorem MA(a:OA)(n c:Nat)(b:OA)(m d:Nat)(h:ae)(Q:VH)(e:LL SS mJ [1,1,1,0,1,0,0] (iJ a n c b m d 0 0 none 0 0) h (KK SS mJ [1,1,1,0,1,0] [] (EE SS mJ Q))):FW SS 155 [(.slice a n c),(.slice b m d)] h Q:=cQ mJ Tryz.func155 (ai e)
theorem wC(a:OA)(n c:Nat)(b:OA)(m d:Nat)  (x:Nat->Nat->Nat->OA->Nat->Nat->ae->Prop) (Q:VH) (step:∀(y:Nat)(k cc:Nat)(r:OA)(v w:Nat)(A:Nat->Value)(h:ae),x y k cc r v w h->au (decide (((k:Int):Int)<(n:Int))) (FW SS 151 [(.slice a n c),(iA k)] h λt u=>yI .i64 t λs=>FW SS 151 [(.slice b m d),(iA k)] u λp q=>yI .i64 p λo=>au (decide ((wrap .i64 (wrap .i64 (s-o)-(cc:Int)):Int)<0)) (xR (aF SS.P 22 1 [(0,(.int .i64 (wrap .i64 (wrap .i64 (wrap .i64 (s-o)-(cc:Int))+10))))]) q λ_ i j l=>xE (bI SS.P 22 22 (.slice r v w) (sA (q.next) i j) l) l λe f g _ h=>aI (BW (iJ a n c b m d) x) y [(.slice a n c),(.slice b m d),(.slice e f g),(.int .i64 1),(.int .i64 (wrap .i64 ((k:Int)+1)))] h) (xR (aF SS.P 22 1 [(0,(.int .i64 (wrap .i64 (wrap .i64 (s-o)-(cc:Int)))))]) q λ_ i j l=>xE (bI SS.P 22 22 (.slice r v w) (sA (q.next) i j) l) l λe f g _ h=>aI (BW (iJ a n c b m d) x) y [(.slice a n c),(.slice b m d),(.slice e f g),(.int .i64 0),(.int .i64 (wrap .i64 ((k:Int)+1)))] h)) (Q (.slice r v w) h)) (y:Nat) {k cc:Nat} {r:OA} {v w:Nat} {h:ae} (z:x y k cc r v w h):LL SS mJ [1,1,1,0,1,0,0] (iJ a n c b m d k cc r v w) h (KK SS mJ [1,1,1,0,1,0] [] (EE SS mJ Q)):=
 F0 (iJ a n c b m d) x (λy k cc r v w A h z=>ai (step y k cc r v w A h z)) y z
noncomputable def eD:FD:=cG Tryz.f153 [([1,1,0,0,0],[0,3]),([1,1,1,1,0,1,0,0],[0,4,5])]
abbrev nJ(a:OA)(n c:Nat)(z:Int):LV:=[(.slice a n c),(.int .i64 z)]
abbrev iK(a:OA)(n c:Nat)(i:Int)(r:OA)(b d:Nat):LV:=[(.slice a n c),(.slice r b d),(.int .i64 i)]
theorem MC(a:OA)(n c:Nat)(h:ae)(Q:VH)(b:LL SS eD [1,1,0,0,0] [(.slice a n c),(iA n)] h (KK SS eD [1,1,0,0] [] (EE SS eD Q))):FW SS 153 [(.slice a n c)] h Q:=cQ eD Tryz.func153 (ai b)
theorem wD(a:OA)(n c:Nat)  (f:Nat->Int->ae->Prop) (Q:VH) (step:∀(e:Nat)(z:Int)(i:Nat->Value)(h:ae),f e z h->au (decide ((z:Int)>1)) (iP 22 (.slice a n c) (.int .i64 (wrap .i64 (z-1))) λd=>lI h d λb=>au (((b:Int)==0)) (aI (fj (nJ a n c) f) e [(.slice a n c),(.int .i64 (wrap .i64 (z-1)))] h) (LL SS eD [1,1,1,1,0,1,0,0] (iK a n c (wrap .i64 (z-1)) none 0 0) h (KK SS eD [1,1,1,1,0,1,0] [] (EE SS eD Q)))) (LL SS eD [1,1,1,1,0,1,0,0] (iK a n c (wrap .i64 (z-1)) none 0 0) h (KK SS eD [1,1,1,1,0,1,0] [] (EE SS eD Q)))) (e:Nat) {z:Int} {h:ae} (g:f e z h):LL SS eD [1,1,0,0,0] (nJ a n c z) h (KK SS eD [1,1,0,0] [] (EE SS eD Q)):=
 dg (nJ a n c) f (λe z i h g=>ai (step e z i h g)) e g
theorem wE(a:OA)(n c:Nat)  (s:Nat->Int->OA->Nat->Nat->ae->Prop) (Q:VH) (step:∀(q:Nat)(i:Int)(r:OA)(o p:Nat)(u:Nat->Value)(h:ae),s q i r o p h->au (decide ((i:Int)>=0)) (iP 22 (.slice a n c) (.int .i64 i) λm=>lI h m λl=>xR (aF SS.P 172 1 [(0,(.int .u8 (wrap .u8 (wrap .i64 (48+l)))))]) h λ_ g j k=>xE (bI SS.P 172 172 (.slice r o p) (sA (h.next) g j) k) k λb d e _ f=>aI (Zg (iK a n c) s) q [(.slice a n c),(.slice b d e),(.int .i64 (wrap .i64 (i-1)))] f) (au ((((o:Int):Int)==0)) (Q (strOf [48]) h) (xS (Bo SS.P 172 9 (.slice r o p) h) λa=>Q (strOf a) h))) (q:Nat) {i:Int} {r:OA} {o p:Nat} {h:ae} (t:s q i r o p h):LL SS eD [1,1,1,1,0,1,0,0] (iK a n c i r o p) h (KK SS eD [1,1,1,1,0,1,0] [] (EE SS eD Q)):=
 UY (iK a n c) s (λq i r o p u h t=>ai (step q i r o p u h t)) q t
variable{g:ae}{m:Nat}{y:List Nat}
theorem O2(z:Int):aF SS.P 22 1 [(0,.int .i64 z)]=some (.cells [.int .i64 z] 3 1 true,mL 1 1):=by kernel_rfl
theorem Zp(z:Int):aF SS.P 172 1 [(0,.int .u8 z)]=some (.cells [.int .u8 z] 5 1 true,mL 1 1):=by kernel_rfl
theorem AW:SS.P.underlying 172=some (.slice 5):=by kernel_rfl
theorem un5:SS.P.underlying 5=some (.int .u8):=by kernel_rfl
theorem zz5:aE SS.P 5=some 1:=by kernel_rfl
theorem ag5:Go.Ab.isAgg SS.P 5=false:=by kernel_rfl
noncomputable def re5:TypeInfo:=(eS SS.P 5).getD default
theorem aaV:eS SS.P 5=some re5:=by kernel_rfl
theorem UI:re5.size=1:=by kernel_rfl
theorem Qz:re5.bytes=1:=by kernel_rfl
theorem DA(d:Wf g)(e:Ok g h){v:Value}{a:List Value}(o:ej g h 3 v a)(z:Int)(f:a.length<=100000):
  ∃(b:Option Addr)(n c:Nat)(u:dM),bI SS.P 22 22 v (.slice (some ⟨h.next,0,none⟩) 1 1) (h.push (.cells [.int .i64 z] 3 1 true))=some (.slice b n c,u)/\n=a.length+1/\ej g (u.app (h.push (.cells [.int .i64 z] 3 1 true))) 3 (.slice b n c) (a++[.int .i64 z])/\Ok g (u.app (h.push (.cells [.int .i64 z] 3 1 true))):=
 ej.snoc qp UH J1 d e o rfl (by rw[FQ];omega) (by omega)
theorem Oc(d:Wf g)(e:Ok g h){v:Value}{a:List Value}(o:ej g h 5 v a)(z:Int)(f:a.length<=100000):
  ∃(b:Option Addr)(n c:Nat)(u:dM),bI SS.P 172 172 v (.slice (some ⟨h.next,0,none⟩) 1 1) (h.push (.cells [.int .u8 z] 5 1 true))=some (.slice b n c,u)/\n=a.length+1/\ej g (u.app (h.push (.cells [.int .u8 z] 5 1 true))) 5 (.slice b n c) (a++[.int .u8 z])/\Ok g (u.app (h.push (.cells [.int .u8 z] 5 1 true))):=
 ej.snoc AW aaV UI d e o rfl (by rw[Qz];omega) (by omega)
theorem Pe(c:UInt8)(l:List UInt8):fs (c::l)=fs l++[jo c]:=by simp[fs]
theorem Fo(h:i<s.length):s.drop i=s.getD i 0::s.drop (i+1):=by
 rw[gD,gE h,drop_eq_getElem_cons h];rfl
theorem Cm(a:s.all bR=true){i:Nat}(h:i<s.length):bR (s.getD i 0)=true:=by
 rw[gD,gE h];exact all_eq_true.1 a _ (getElem_mem h)
def iV(h:ae)(e:TypeId)(d:List Value):VH:=λv b=>∃a n c,v = .slice a n c/\ej h b e (.slice a n c) d/\Ok h b
theorem r7(l:List UInt8)(C:l.all bR=true)(t:l.length<=100000)(h:ae)(w:Wf h):FW SS 150 [strOf l] h (iV h 3 ((fs l).map iv)):=by
 have L:=tN l (λk i a n c g=> -1<=i/\i<l.length/\k=(i+1).toNat/\ej h g 3 (.slice a n c) ((fs (l.drop (i+1).toNat)).map iv)/\Ok h g) (iV h 3 ((fs l).map iv)) (by
  intro k i a n c;intros;rename_i g y;obtain⟨F,x,E,r,s⟩:=y;refine aa (λf=>?_) (λf=>?_)
  ·have f:=dT f;have j:i.toNat<l.length:=by omega
   have p:=Cm C j;have D:=lk.1 p;refine⟨_,Be (h:=g) l f x,_,_,_,O2 _,?_⟩;obtain⟨b,m,d,u,B,G,o,z⟩:=DA w s r (wrap .i64 (wrap .u8 ((((l.getD i.toNat 0).toNat:Nat):Int)-48))) (by simp[fs];omega);refine⟨b,m,d,u,B,?_⟩;have e:wrap .i64 (i-1)=i-1:=aB (by omega) (by omega);refine Td (k-1) (by omega) ?_;rw[e];refine⟨by omega,by omega,by omega,?_,z⟩;have q:wrap .i64 (wrap .u8 ((((l.getD i.toNat 0).toNat:Nat):Int)-48))=((jo (l.getD i.toNat 0):Nat):Int):=by
    rw[sy (by omega) (by omega),aB (by omega) (by omega)];unfold jo;omega
   rw[q]at o;have A:(i-1+1).toNat=i.toNat:=by omega
   have v:(i+1).toNat=i.toNat+1:=by omega
   rw[v]at o;rw[q,A,Fo j,Pe,map_append];exact o
  ·have f:=dF f;obtain rfl:i = -1:=by omega
   exact⟨a,n,c,rfl,r,s⟩)
 have e:wrap .i64 ((l.length:Int)-1)=(l.length:Int)-1:=aB (by omega) (by omega);refine HI l h _ ?_;refine L l.length ⟨by rw[e];omega,by rw[e];omega,by rw[e];omega,?_,Ok.refl w⟩;rw[e,show((l.length:Int)-1+1).toNat=l.length by omega,List.drop_length];exact .inl ⟨rfl,rfl⟩
theorem Dr{b:Option Addr}{c:Nat}(N:Rd h 3 (.slice a n c) (x.map iv))(S:Rd h 3 (.slice b m i) (y.map iv))(R:∀i∈x,i<10)(U:∀i∈y,i<10)(O:x.length<=100000)(w:Wf h):
  FW SS 155 [.slice a n c,.slice b m i] h (iV h 3 ((bk fi x y 0 x.length 0).map iv)):=by
 have W:n=x.length:=by have:=N.len;rwa[lM]at this
 have J:∀k,eJ fi x y 0 0 k<=1:=Nm (λp q c _=>by unfold fi;split<;>simp) x y 0 0 (by omega);have L:=wC a n c b m i (λt k cc r z B g=>k<=x.length/\t=x.length-k/\cc=eJ fi x y 0 0 k/\ej h g 3 (.slice r z B) ((bk fi x y 0 k 0).map iv)/\Ok h g) (iV h 3 ((bk fi x y 0 x.length 0).map iv)) (by
  intro t k cc r z B;intros;rename_i g T;obtain⟨X,Z,P,F,o⟩:=T;have V:=J k;have hp:=aZ (by omega) R k;have Y:=aZ (by omega) U k;refine aa (λs=>?_) (λs=>?_)
  ·have s:=dT s;refine(tL (N.ok o) k).mono ?_;rintro _ _ ⟨rfl,rfl⟩;refine⟨_,rfl,(tL (S.ok o) k).mono ?_⟩;rintro _ _ ⟨rfl,rfl⟩;refine⟨_,rfl,?_⟩;have M:wrap .i64 (((x.getD k 0:Nat):Int)-((y.getD k 0:Nat):Int))=((x.getD k 0:Nat):Int)-((y.getD k 0:Nat):Int):=aB (by omega) (by omega);have I:wrap .i64 (((x.getD k 0:Nat):Int)-((y.getD k 0:Nat):Int)-(cc:Int))=((x.getD k 0:Nat):Int)-((y.getD k 0:Nat):Int)-(cc:Int):=aB (by omega) (by omega);have K:wrap .i64 ((k:Int)+1)=((k+1:Nat):Int):=by rw[aB (by omega) (by omega)];omega
   dsimp only;rw[M,I,K];have v:(bk fi x y 0 k 0).length=k:=eV _ _ _ _ _ _;have f:=hW fi x y k 0 0;have j:eJ fi x y 0 0 (k+1)=(fi (x.getD (0+k) 0) (y.getD (0+k) 0) (eJ fi x y 0 0 k)).2:=rfl;rw[Nat.zero_add,<-P]at f j;refine aa (λl=>?_) (λl=>?_)
   ·have l:=dT l;refine⟨_,_,_,O2 _,?_⟩;obtain⟨E,C,A,u,D,Q,e,H⟩:=DA w o F (wrap .i64 (((x.getD k 0:Nat):Int)-((y.getD k 0:Nat):Int)-(cc:Int)+10)) (by rw[lM,v];omega);refine⟨E,C,A,u,D,?_⟩;have d:fi (x.getD k 0) (y.getD k 0) cc=(x.getD k 0+10-y.getD k 0-cc,1):=by unfold fi;rw[if_pos (by omega)]
    refine oW (b:=1) (t-1) (by omega) ⟨by omega,by omega,by rw[j,d],?_,H⟩;rw[f,d,map_append];have G:wrap .i64 (((x.getD k 0:Nat):Int)-((y.getD k 0:Nat):Int)-(cc:Int)+10)=((x.getD k 0+10-y.getD k 0-cc:Nat):Int):=by rw[aB (by omega) (by omega)];omega
    rw[G]at e⊢;exact e
   ·have l:=dF l;refine⟨_,_,_,O2 _,?_⟩;obtain⟨E,C,A,u,D,Q,e,H⟩:=DA w o F (((x.getD k 0:Nat):Int)-((y.getD k 0:Nat):Int)-(cc:Int)) (by rw[lM,v];omega);refine⟨E,C,A,u,D,?_⟩;have d:fi (x.getD k 0) (y.getD k 0) cc=(x.getD k 0-y.getD k 0-cc,0):=by unfold fi;rw[if_neg (by omega)]
    refine oW (b:=0) (t-1) (by omega) ⟨by omega,by omega,by rw[j,d],?_,H⟩;rw[f,d,map_append];have G:((x.getD k 0:Nat):Int)-((y.getD k 0:Nat):Int)-(cc:Int)=((x.getD k 0-y.getD k 0-cc:Nat):Int):=by omega
    rw[G]at e⊢;exact e
  ·have s:=dF s;obtain rfl:k=x.length:=by omega
   exact⟨r,z,B,rfl,F,o⟩)
 exact MA a n c b m i h _ (L x.length (k:=0) (cc:=0) ⟨by omega,by omega,rfl,.inl ⟨rfl,rfl⟩,Ok.refl w⟩)
theorem Od(r:Rd h 5 v (s.map sR)):Bo SS.P 172 9 v h=some (strOf s):=YQ AW YP un5 r
theorem EP{z:Nat}(b:i<z)(c:z<=x.length):((x.take z).drop i).reverse=((x.take z).drop (i+1)).reverse++[x.getD i 0]:=by
 have a:i<(x.take z).length:=by rw[length_take];omega
 rw[drop_eq_getElem_cons a,List.reverse_cons,List.getElem_take,gD,gE (by omega)];rfl
theorem r8{c:Nat}(L:Rd h 3 (.slice a n c) (x.map iv))(P:∀d∈x,d<10)(V:x.length<=100000)(w:Wf h):
  FW SS 153 [.slice a n c] h (λv D=>v=strOf (ag (Num.bv 10 x))/\Ok h D):=by
 have hn:n=x.length:=by have:=L.len;rwa[lM]at this
 have Q:=λ(f:Nat) (hz:f<=x.length) (T:0<x.length->0<f) (W:0<x.length->th (x.take f)=ag (Num.bv 10 x))=>wE a n c (λy i r H R g=> -1<=i/\i<(f:Int)/\y=(i+1).toNat/\ej h g 5 (.slice r H R) ((((x.take f).drop (i+1).toNat).reverse.map eU).map sR)/\Ok h g) (λv D=>v=strOf (ag (Num.bv 10 x))/\Ok h D) (by
  intro y i r H R;intros;rename_i g M;obtain⟨h1,h2,Y,t,J⟩:=M;refine aa (λq=>?_) (λq=>?_)
  ·have q:=dT q;obtain⟨p,K,F⟩:=(L.ok J).at_ qp Ru Gm Fa (k:= .i64) (i:=i) q (by rw[lM];omega);rw[tr x i.toNat (by omega)]at F;refine⟨p,K,_,F,_,_,_,Zp _,?_⟩;have N:=aZ (by omega) P i.toNat;obtain⟨b,m,d,u,g6,g7,O,g9⟩:=Oc w J t (wrap .u8 (wrap .i64 (48+((x.getD i.toNat 0:Nat):Int)))) (by simp;omega);refine⟨b,m,d,u,g6,?_⟩;have I:wrap .i64 (i-1)=i-1:=aB (by omega) (by omega);refine Td (y-1) (by omega) ?_;rw[I];refine⟨by omega,by omega,by omega,?_,g9⟩;rw[show(i-1+1).toNat=i.toNat by omega,EP (by omega) hz,map_append,map_append];rw[show(i+1).toNat=i.toNat+1 by omega]at O;have X:sR (eU (x.getD i.toNat 0)) = .int .u8 (wrap .u8 (wrap .i64 (48+((x.getD i.toNat 0:Nat):Int)))):=by
    unfold sR;rw[jr N,aB (by omega) (by omega),sy (by omega) (by omega)]
    first|rfl|(congr 1;omega)
   show ej h _ 5 _ (_++[sR (eU (x.getD i.toNat 0))]);rw[X];exact O
  ·have q:=dF q;obtain rfl:i = -1:=by omega
   have e0:((-1:Int)+1).toNat=0:=rfl;rw[e0,drop_zero]at t;have S:=t.len;simp only[lM,List.length_reverse,length_take]at S;refine aa (λo=>?_) (λo=>?_)
   ·have o:(H:Int)=0:=by simpa using o
    have E:x=[]:=by
     rcases Nat.eq_zero_or_pos x.length with e|e
     ·exact List.eq_nil_of_length_eq_zero e
     ·have:=T e;omega
    subst E;exact⟨by rw[show Num.bv 10 []=0 from rfl,nY],J⟩
   ·have o:¬(H:Int)=0:=by simpa using o
    have E:0<x.length:=by omega
    have:=Od t.rd;rw[show((x.take f).reverse.map eU)=th (x.take f)from rfl,W E]at this;exact⟨_,this,rfl,J⟩)
 have s:∀(f:Nat),ej h h 5 (.slice none 0 0) ((((x.take f).drop ((f:Int)-1+1).toNat).reverse.map eU).map sR):=λf=>by
  rw[show((f:Int)-1+1).toNat=f by omega,List.drop_of_length_le (by rw[length_take];omega)];exact .inl ⟨rfl,rfl⟩
 have L1:=wD a n c (λy z g=>0<=z/\z<=x.length/\y=z.toNat/\(0<x.length->0<z)/\(∀j:Nat,z<=j->x.getD j 0=0)/\g=h) (λv D=>v=strOf (ag (Num.bv 10 x))/\Ok h D) (by
  intro y z;intros;rename_i g M;obtain⟨h1,h2,Y,t,q,rfl⟩:=M;obtain⟨f,rfl⟩:∃f:Nat,z=f:=⟨z.toNat,by omega⟩
  have I:wrap .i64 ((f:Int)-1)=(f:Int)-1:=aB (by omega) (by omega);have B:(1<f->x.getD (f-1) 0≠0)->0<x.length->th (x.take f)=ag (Num.bv 10 x):=λZ C=>by
   rw[<-B2 (l:=x) (n:=f) (λj U=>q j (by omega))];refine Oz (λd N=>P d (List.mem_of_mem_take N)) (λe=>?_) (λA=>?_)
   ·have:=congrArg List.length e;rw[length_take]at this;have h9:min f x.length=0:=this;have:=t C;omega
   ·rw[length_take]at A;have G:=Z (by omega);rw[List.getLast?_eq_getElem?,length_take,List.getElem?_take,if_pos (by omega)];rw[gD,gE (by omega)]at G;rw[show min f x.length-1=f-1 by omega,gE (by omega)];simpa using G
  refine aa (λo=>?_) (λo=>?_)
  ·have o:=dT o;rw[I];obtain⟨p,K,F⟩:=L.at_ qp Ru Gm Fa (k:= .i64) (i:=(f:Int)-1) (by omega) (by rw[lM];omega);rw[tr x _ (by omega),show((f:Int)-1).toNat=f-1 by omega]at F;refine⟨p,K,_,F,aa (λA=>?_) (λA=>?_)⟩
   ·have A:((x.getD (f-1) 0:Nat):Int)=0:=by simpa using A
    refine bZ (y-1) (by omega) ⟨by omega,by omega,by omega,λ_=>by omega,λj U=>?_,rfl⟩;rcases lt_or_ge j f with G|G
    ·obtain rfl:j=f-1:=by omega
     omega
    ·exact q j (by omega)
   ·have A:¬((x.getD (f-1) 0:Nat):Int)=0:=by simpa using A
    exact Q f (by omega) (λC=>by have:=t C;omega) (B λ_=>by omega) f ⟨by omega,by omega,by omega,s f,Ok.refl w⟩
  ·have o:=dF o;rw[I];exact Q f (by omega) (λC=>by have:=t C;omega) (B λhh=>by omega) f ⟨by omega,by omega,by omega,s f,Ok.refl w⟩)
 refine MC a n c h _ (L1 n (z:=(n:Int)) ⟨by omega,by omega,by omega,λC=>by omega,λj U=>?_,rfl⟩);rw[gD,List.getElem?_eq_none (by omega)];rfl
noncomputable def cF:FD:=cG Tryz.f137 [([1,1,1,1,1,0,1,0,0],[0,1,7,8,9]),([1,1,1,1,1,0,1,0,0,1,0,0,1,1,0,0,0],[0,1,7,8,9,10]),([1,1,1,1,1,1,1,0,0,0],[0,1,7,8,11])]
abbrev fO(a b:LB)(k:Nat)(r:LB)(q:OA)(d c:Nat):LV:=[(strOf a),(strOf b),(.slice q d c),(strOf r),(iA k)]
abbrev jE(a b:LB)(k:Nat)(q:OA)(e c:Nat)(r:LB)(d:Int):LV:=[(strOf a),(strOf b),(.slice q e c),(strOf r),(iA k),(.int .u8 d)]
abbrev lZ(a b r:LB)(q:OA)(d c:Nat)(z:Nat):LV:=[(strOf a),(strOf b),(.slice q d c),(strOf r),(iA z)]
theorem QK(a b:LB)(h:ae)(Q:VH)(i:FW SS 136 [(strOf a)] h λg h=>yB g λf=>au (!f) (Q (.tuple ⟨[(strOf []),(strOf []),(.int .i64 1)]⟩) h) (FW SS 136 [(strOf b)] h λd e=>yB d λc=>au (!c) (Q (.tuple ⟨[(strOf []),(strOf []),(.int .i64 1)]⟩) e) (au ((b:LB)==[48]) (Q (.tuple ⟨[(strOf []),(strOf []),(.int .i64 4)]⟩) e) (LL SS cF [1,1,1,1,1,0,1,0,0] (fO a b 0 ([48]) none 0 0) e (KK SS cF [1,1,1,1,1,0,1,0] [] (EE SS cF Q)))))):FW SS 137 [(strOf a),(strOf b)] h Q:=cQ cF Tryz.func137 (ai i)
theorem yb(a b:LB)  (g:Nat->Nat->LB->OA->Nat->Nat->ae->Prop) (Q:VH) (step:∀(i:Nat)(k:Nat)(r:LB)(q:OA)(f e:Nat)(l:Nat->Value)(h:ae),g i k r q f e h->au (decide (((k:Int):Int)<((a:LB).length:Int))) (au ((r:LB)==[48]) (xS (bG SS.P 9 (strOf a) (some (iA k)) (some (.int .i64 (wrap .i64 ((k:Int)+1)))) none h) λc=>LL SS cF [1,1,1,1,1,0,1,0,0,1,0,0,1,1,0,0,0] (jE a b k q f e c 48) h (KK SS cF [1,0,0,1,1,0,0] [1,1,1,1,1,0,1,0,0] (RR cF [1,1,1,1,1,0,1,0,0] (BW (fO a b) g) i (KK SS cF [1,1,1,1,1,0,1,0] [] (EE SS cF Q))))) (xS (bG SS.P 9 (strOf a) (some (iA k)) (some (.int .i64 (wrap .i64 ((k:Int)+1)))) none h) λd=>xS (ay SS.P .add 9 (strOf r) (strOf d)) λc=>LL SS cF [1,1,1,1,1,0,1,0,0,1,0,0,1,1,0,0,0] (jE a b k q f e c 48) h (KK SS cF [1,0,0,1,1,0,0] [1,1,1,1,1,0,1,0,0] (RR cF [1,1,1,1,1,0,1,0,0] (BW (fO a b) g) i (KK SS cF [1,1,1,1,1,0,1,0] [] (EE SS cF Q)))))) (LL SS cF [1,1,1,1,1,1,1,0,0,0] (lZ a b r q f e 0) h (KK SS cF [1,1,1,1,1,1,1,0,0] [] (EE SS cF Q)))) (i:Nat) {k:Nat} {r:LB} {q:OA} {f e:Nat} {h:ae} (j:g i k r q f e h):LL SS cF [1,1,1,1,1,0,1,0,0] (fO a b k r q f e) h (KK SS cF [1,1,1,1,1,0,1,0] [] (EE SS cF Q)):=
 F0 (fO a b) g (λi k r q f e l h j=>ai (step i k r q f e l h j)) i j
theorem ye(a b:LB)(E:Nat->Nat->LB->OA->Nat->Nat->ae->Prop)(G k:Nat)(q:OA)(D C:Nat)(B:Nat->LB->Int->ae->Prop)(Q:VH)(step:∀(A:Nat) (r:LB) (d:Int) (H:Nat->Value) (h:ae),B A r d h->FW SS 154 [(strOf r),(strOf b)] h λy z=>yI .i64 y λx=>au (decide ((x:Int)>=0)) (FW SS 150 [(strOf r)] z λv w=>yL v λs t u=>FW SS 150 [(strOf b)] w λp r=>yL p λm n o=>FW SS 155 [(.slice s t u),(.slice m n o)] r λj l=>yL j λg h i=>FW SS 153 [(.slice g h i)] l λe f=>yS e λc=>aI (qP (jE a b k q D C) B) A [(strOf a),(strOf b),(.slice q D C),(strOf c),(iA k),(.int .u8 (wrap .u8 (d+1)))] f) (xR (aF SS.P 172 1 [(0,(.int .u8 d))]) z λ_ g h i=>xE (bI SS.P 172 172 (.slice q D C) (sA (z.next) g h) i) i λc d e _ f=>aI (BW (fO a b) E) G [(strOf a),(strOf b),(.slice c d e),(strOf r),(.int .i64 (wrap .i64 ((k:Int)+1)))] f))(A:Nat){r:LB}{d:Int}{h:ae}(F:B A r d h):LL SS cF [1,1,1,1,1,0,1,0,0,1,0,0,1,1,0,0,0] (jE a b k q D C r d) h (KK SS cF [1,0,0,1,1,0,0] [1,1,1,1,1,0,1,0,0] (RR cF [1,1,1,1,1,0,1,0,0] (BW (fO a b) E) G (KK SS cF [1,1,1,1,1,0,1,0] [] (EE SS cF Q)))):=
 nu (jE a b k q D C) B (λA r d H h F=>ai (step A r d H h F)) A F
theorem yf(a b:LB)(r:LB)(q:OA)(g j:Nat)(k:Nat->Nat->ae->Prop)(Q:VH)(step:∀(i:Nat) (z:Nat) (m:Nat->Value) (h:ae),k i z h->au (decide (((z:Int):Int)<wrap .i64 ((g:Int)-1))) (iP 172 (.slice q g j) (iA z) λf=>xI .u8 (aj SS.P 5 h (.pointer (some f))) λe=>au (((e:Int)==48)) (aI (fj (lZ a b r q g j) k) i [(strOf a),(strOf b),(.slice q g j),(strOf r),(.int .i64 (wrap .i64 ((z:Int)+1)))] h) (xL (bG SS.P 172 (.slice q g j) (some (iA z)) none none h) λb c d=>xS (Bo SS.P 172 9 (.slice b c d) h) λa=>Q (.tuple ⟨[(strOf a),(strOf r),(.int .i64 0)]⟩) h)) (xL (bG SS.P 172 (.slice q g j) (some (iA z)) none none h) λb c d=>xS (Bo SS.P 172 9 (.slice b c d) h) λa=>Q (.tuple ⟨[(strOf a),(strOf r),(.int .i64 0)]⟩) h))(i:Nat){z:Nat}{h:ae}(l:k i z h):LL SS cF [1,1,1,1,1,1,1,0,0,0] (lZ a b r q g j z) h (KK SS cF [1,1,1,1,1,1,1,0,0] [] (EE SS cF Q)):=
 dg (lZ a b r q g j) k (λi z m h l=>ai (step i z m h l)) i l
noncomputable def pk:FD:=cG Tryz.f118 [([1,1,0,0,0],[0,1])]
abbrev l6  (x y:LB):LV:=[(strOf x),(strOf y)]
theorem QL(a b:LB)(h:ae)(Q:VH)(i:FW SS 136 [(strOf a)] h λg h=>yB g λf=>au (!f) (Q (.tuple ⟨[(strOf []),(.int .i64 1)]⟩) h) (FW SS 136 [(strOf b)] h λd e=>yB d λc=>au (!c) (Q (.tuple ⟨[(strOf []),(.int .i64 1)]⟩) e) (LL SS pk [1,1,0,0,0] (l6 a b) e (KK SS pk [1,1,0,0] [] (EE SS pk Q))))):FW SS 118 [(strOf a),(strOf b)] h Q:=cQ pk Tryz.func118 (ai i)
theorem yg(a b:LB)  (g:Nat->LB->LB->ae->Prop) (Q:VH) (step:∀(f:Nat)(x y:LB)(j:Nat->Value)(h:ae),g f x y h->au (!((y:LB)==[48])) (FW SS 137 [(strOf x),(strOf y)] h λd e=>∃c:LB,∃b:LB,∃a:Int,d=(.tuple ⟨[(strOf c),(strOf b),(.int .i64 a)]⟩)/\aI (qP l6 g) f [(strOf y),(strOf b)] e) (Q (.tuple ⟨[(strOf x),(.int .i64 0)]⟩) h)) (f:Nat) {x y:LB} {h:ae} (i:g f x y h):LL SS pk [1,1,0,0,0] (l6  x y) h (KK SS pk [1,1,0,0] [] (EE SS pk Q)):=
 nu l6 g (λf x y j h i=>ai (step f x y j h i)) f i
variable{k:Nat}
theorem Vb(l:List UInt8){h:ae}{a b:Nat}(c:a<=b)(d:b<=l.length):bG SS.P 9 (strOf l) (some (.int .i64 (a:Int))) (some (.int .i64 (b:Int))) none h=some (strOf ((l.drop a).take (b-a))):=oA YP l rfl rfl c d
theorem T1(h:k<s.length):(s.drop k).take (k+1-k)=[s.getD k 0]:=by
 rw[Fo h,show k+1-k=1 by omega];rfl
theorem fR(h:n<10^1000):(ag n).length<=1000:=(dc (by omega)).2 h
theorem LK(h:k<s.length):s[k]?=some (s.getD k 0):=by
 rw[gD,gE h];rfl
def three(a b:List UInt8)(e:Int):Value:= .tuple ⟨[strOf a,strOf b,.int .i64 e]⟩
theorem zQ(m n:Nat)(L:m<10^1000)(B:n<10^1000)(U:0<n)(h:ae)(w:Wf h):FW SS 137 [strOf (ag m),strOf (ag n)] h (λv D=>v=three (ag (m/n)) (ag (m%n)) 0/\Ok h D):=by
 have u4:=fR L;have z8:=fR B;have z1:=cY m;generalize ha:ag m=a at*;have y5:Num.val a=m:=by rw[<-ha,bu]
 have y7:¬ag n=[48]:=λe=>by have:=bM.1 e;omega
 have L3:=λ(g0:ae) (r:List UInt8) (q:Option Addr) (l x:Nat) (c:List UInt8) (M:ej h g0 5 (.slice q l x) (c.map sR)) (hq:c.all bR=true) (z7:0<c.length) (z9:c.length<=1000) (y4:Num.val c=m/n) (y:r=ag (m%n)) (N:Ok h g0)=>
  yf a (ag n) r q l x (λs z g=>z+1<=c.length/\s=c.length-z/\(∀i,i<z->c[i]?=some 48)/\g=g0) (λv D=>v=three (ag (m/n)) (ag (m%n)) 0/\Ok h D) (by
  intro s z;intros;rename_i g O;obtain⟨h1,h2,h3,rfl⟩:=O;have u2:l=c.length:=by have:=M.len;rwa[lM]at this
  have hw:wrap .i64 ((l:Int)-1)=(l:Int)-1:=aB (by omega) (by omega);have E:wrap .i64 ((z:Int)+1)=((z+1:Nat):Int):=by rw[aB (by omega) (by omega)];omega
  have x3:(z+1<c.length->c[z]?≠some 48)->∃(x4:Option Addr)(x5 x2:Nat),bG SS.P 172 (.slice q l x) (some (.int .i64 (z:Int))) none none g=some (.slice x4 x5 x2)/\∃Y:List UInt8,Bo SS.P 172 9 (.slice x4 x5 x2) g=some (strOf Y)/\(three Y r 0=three (ag (m/n)) (ag (m%n)) 0/\Ok h g):=λhs=>by
   obtain⟨a',n',c',g1,A⟩:=M.from_ AW zz5 (z:=z) (by rw[lM];omega);rw[<-List.map_drop]at A;refine⟨a',n',c',g1,_,Od A,?_,N⟩;rw[Iv hq (by omega) h3 hs,y4,y]
  rw[hw,E];refine aa (λo=>?_) (λo=>?_)
  ·have o:=dT o;obtain⟨p,A,X⟩:=M.rd.at_ AW zz5 un5 ag5 (k:= .i64) (i:=(z:Int)) (by omega) (by rw[lM];omega);have C:(c.map sR).getD ((z:Int)).toNat undef = .int .u8 ((c.getD z 0).toNat:Nat):=by
    rw[Int.toNat_natCast,gD,getElem?_map,LK (by omega)];rfl
   rw[C]at X;refine⟨p,A,_,X,aa (λf=>?_) (λf=>?_)⟩
   ·have f:=Gk.1 f;refine bZ (s-1) (by omega) ⟨by omega,by omega,λi O=>?_,rfl⟩;rcases lt_or_ge i z with t|t
    ·exact h3 i t
    ·obtain rfl:i=z:=by omega
     rw[LK (by omega),f]
   ·exact x3 λ_ e=>by
     rw[LK (by omega)]at e;rw[Gk.2 (oI e)]at f;cases f
  ·have o:=dF o;exact x3 λhh=>by omega)
 have L1:=yb a (ag n) (λs k r q l x g=>k<=a.length/\s=a.length-k/\r=ag (Num.val (a.take k)%n)/\(∃c:List UInt8,c.length=k/\c.all bR=true/\Num.val c=Num.val (a.take k)/n/\ej h g 5 (.slice q l x) (c.map sR))/\Ok h g) (λv D=>v=three (ag (m/n)) (ag (m%n)) 0/\Ok h D) (by
  intro s k r q l x;intros;rename_i g O;obtain⟨h1,h2,y,⟨c,y2,x9,G,M⟩,N⟩:=O;refine aa (λo=>?_) (λo=>?_)
  ·have o:=dT o;have F:k<a.length:=by omega
   have S:=Cm z1 F;have y6:=qU S;have y0:=mod_lt (Num.val (a.take k)) U;have E:wrap .i64 ((k:Int)+1)=((k+1:Nat):Int):=by rw[aB (by omega) (by omega)];omega
   have x7:Num.val (a.take (k+1))=10*Num.val (a.take k)+jo (a.getD k 0):=sJ (LK F);have K:=GG (r:=Num.val (a.take k)%n) S;have L2:=ye a (ag n) (λs k r q l x g=>k<=a.length/\s=a.length-k/\r=ag (Num.val (a.take k)%n)/\(∃c:List UInt8,c.length=k/\c.all bR=true/\Num.val c=Num.val (a.take k)/n/\ej h g 5 (.slice q l x) (c.map sR))/\Ok h g) s k q l x
    (λx0 r d A=>∃j:Nat,d=48+(j:Int)/\j*n<=10*(Num.val (a.take k)%n)+jo (a.getD k 0)/\r=ag (10*(Num.val (a.take k)%n)+jo (a.getD k 0)-j*n)/\x0=10*(Num.val (a.take k)%n)+jo (a.getD k 0)-j*n/\Ok g A) (λv D=>v=three (ag (m/n)) (ag (m%n)) 0/\Ok h D) (by
    intro x0 r2 d;intros;rename_i A z4;obtain⟨j,rfl,x6,rfl,u3,J⟩:=z4;have P:=Ii U y6 x6;generalize hR:10*(Num.val (a.take k)%n)+jo (a.getD k 0)=R at*;have z6:(ag (R-j*n)).length<=1001:=by
     have z5:=oM n;refine Nat.le_trans ((dc (k:=(ag n).length+1) (by omega)).2 ?_) (by omega);rw[Nat.pow_succ];generalize 10^(ag n).length=T at z5;clear B L;omega
    have y9:=N.trans J;refine(qo (R-j*n) n (by omega) (by omega) A y9.wf).mono ?_;rintro _ X ⟨rfl,H⟩;refine⟨_,rfl,aa (λf=>?_) (λf=>?_)⟩
    ·have f:=EX.1 (dT f);refine(r7 _ (cY _) (by omega) X H.wf).mono ?_;rintro _ g4 ⟨a1,n1,c1,rfl,o1,x8⟩;refine⟨a1,n1,c1,rfl,(r7 _ (cY _) (by omega) g4 x8.wf).mono ?_⟩;rintro _ g5 ⟨a2,n2,c2,rfl,o2,Q⟩;refine⟨a2,n2,c2,rfl,(Dr (o1.rd.ok Q) o2.rd (ml (cY _)) (ml (cY _)) (by rw[kV];omega) Q.wf).mono ?_⟩;rintro _ g6 ⟨a3,n3,c3,rfl,o3,x1⟩;refine⟨a3,n3,c3,rfl,(r8 o3.rd (EZ (ml (cY _)) (ml (cY _)) _ _ _ (by omega)) (by rw[eV,kV];omega) x1.wf).mono ?_⟩;rintro _ g7 ⟨rfl,z0⟩;have z2:(ag n).length<=(ag (R-j*n)).length:=by
      rcases lt_or_ge (ag (R-j*n)).length (ag n).length with t|t
      ·have:=lO t;omega
      ·exact t
     have Z:=EY (ml (cY (R-j*n))) (ml (cY n)) (by rw[kV,kV];exact z2) (by rw[fY,fY,bu,bu];exact f);rw[fY,fY,bu,bu]at Z;rw[Z];refine⟨_,rfl,?_⟩;have y3:wrap .u8 (48+(j:Int)+1)=48+((j+1:Nat):Int):=by rw[sy (by omega) (by omega)];omega
     rw[y3];have C:(j+1)*n=j*n+n:=Nat.succ_mul j n;exact iI (R-j*n-n) (by clear B L;omega) ⟨j+1,rfl,by rw[C];clear B L;omega,by rw[C,Nat.sub_sub],by rw[C,Nat.sub_sub],((((J.trans H).trans x8).trans Q).trans x1).trans z0⟩
    ·have f:¬(n<=R-j*n):=λe=>by have:=dF f;exact this (EX.2 e)
     have W:=Ij (V:=Num.val (a.take k)) (d:=jo (a.getD k 0)) U (k:=j) (by rw[hR];exact x6) (by rw[hR,Nat.succ_mul];clear B L;omega);rw[hR]at W;refine⟨_,_,_,Zp _,?_⟩;have y8:=N.trans (J.trans H);obtain⟨b,mm,dd,u,g6,g7,g8,g9⟩:=Oc w y8 (M.ok (J.trans H)) (48+(j:Int)) (by rw[lM];omega);refine⟨b,mm,dd,u,g6,?_⟩;rw[E];refine oW (s-1) (by omega) ⟨by omega,by omega,?_,⟨c++[eU j],by simp[y2],?_,?_,?_⟩,g9⟩
     ·rw[x7,W.2]
     ·rw[List.all_append,x9];simp[s9 P]
     ·rw[ie,G,B7 P,x7,W.1]
     ·rw[map_append];have C:sR (eU j) = .int .u8 (48+(j:Int)):=by
       unfold sR;rw[jr P];rfl
      show ej h _ 5 _ (_++[sR (eU j)]);rw[C];exact g8)
   have I:∀r',r'=ag (10*(Num.val (a.take k)%n)+jo (a.getD k 0))->∃j:Nat,(48:Int)=48+(j:Int)/\j*n<=10*(Num.val (a.take k)%n)+jo (a.getD k 0)/\r'=ag (10*(Num.val (a.take k)%n)+jo (a.getD k 0)-j*n)/\10*(Num.val (a.take k)%n)+jo (a.getD k 0)=10*(Num.val (a.take k)%n)+jo (a.getD k 0)-j*n/\Ok g g:=
    λr' e=>⟨0,rfl,by rw[Nat.zero_mul];exact Nat.zero_le _,by rw[Nat.zero_mul,sub_zero];exact e,by rw[Nat.zero_mul,sub_zero],Ok.refl N.wf⟩
   rw[E];refine aa (λf=>?_) (λf=>?_)
   ·have f:r=[48]:=by simpa using f
    refine⟨_,Vb a (by omega) (by omega),?_⟩;rw[T1 F];refine L2 _ (I _ ?_);rw[<-K,if_pos (by rw[<-y];exact f)]
   ·have f:¬r=[48]:=by simpa using f
    refine⟨_,Vb a (by omega) (by omega),?_⟩;rw[T1 F];have u1:r.length<=1000:=by
     rw[y];exact fR (Nat.lt_trans y0 B)
    refine⟨_,rh r [a.getD k 0] (by simp;omega),?_⟩;refine L2 _ (I _ ?_);rw[<-K,if_neg (by rw[<-y];exact f),y]
  ·have o:=dF o;obtain rfl:k=a.length:=by omega
   rw[List.take_length]at G y;rw[y5]at G y;have u0:0<a.length:=by rw[<-ha];exact nD m
   exact L3 g r q l x c M x9 (by omega) (by omega) G y N c.length (z:=0) ⟨by omega,by omega,λi O=>by omega,rfl⟩)
 refine QK a (ag n) h _ ?_;refine(dt a h).mono ?_;rintro _ _ ⟨rfl,rfl⟩;have z3:Num.valid a=true:=by rw[<-ha];exact ee.2 L
 have y1:Num.valid (ag n)=true:=ee.2 B;refine⟨_,rfl,aa (λf=>?_) (λf=>?_)⟩
 ·rw[z3]at f;cases f
 ·refine(dt (ag n) _).mono ?_;rintro _ _ ⟨rfl,rfl⟩;refine⟨_,rfl,aa (λt=>?_) (λt=>aa (λh8=>?_) (λh8=>?_))⟩
  ·rw[y1]at t;cases t
  ·exact absurd (by simpa using h8) y7
  ·exact L1 a.length (k:=0) ⟨by omega,by omega,by rw[take_zero];simp[jP,nY],⟨[],rfl,rfl,by rw[take_zero];simp[jP],.inl ⟨rfl,rfl⟩⟩,Ok.refl w⟩
def two(a:List UInt8)(e:Int):Value:= .tuple ⟨[strOf a,.int .i64 e]⟩
def Bc(a b:List UInt8):Value:=if Num.valid a=true/\Num.valid b=true then two (ag (Nat.gcd (Num.val a) (Num.val b))) 0 else two [] 1
theorem FV(a b:List UInt8)(h:ae)(w:Wf h):FW SS 118 [strOf a,strOf b] h (λv s=>v=Bc a b/\Ok h s):=by
 refine QL a b h _ ?_;refine(dt a h).mono ?_;rintro _ _ ⟨rfl,rfl⟩;refine⟨_,rfl,aa (λi=>?_) (λi=>?_)⟩
 ·refine⟨?_,Ok.refl w⟩;unfold Bc;rw[if_neg (λe=>by rw[e.1]at i;cases i)];rfl
 ·refine(dt b _).mono ?_;rintro _ _ ⟨rfl,rfl⟩;refine⟨_,rfl,aa (λf=>?_) (λf=>?_)⟩
  ·refine⟨?_,Ok.refl w⟩;unfold Bc;rw[if_neg (λe=>by rw[e.2]at f;cases f)];rfl
  ·have o:Num.valid a=true:=by simpa using i
   have k:Num.valid b=true:=by simpa using f
   obtain⟨m,rfl,C,_⟩:=cx o;obtain⟨n,rfl,B,_⟩:=cx k;rename_i u _ _;have L:=yg (ag m) (ag n) (λc x y g=>∃p q:Nat,x=ag p/\y=ag q/\p<10^1000/\q<10^1000/\Nat.gcd p q=Nat.gcd m n/\c=q/\Ok u g) (λv s=>v=Bc (ag m) (ag n)/\Ok u s) (by
    intro c x y;intros;rename_i g D;obtain⟨p,q,rfl,rfl,F,r,A,rfl,t⟩:=D;refine aa (λd=>?_) (λd=>?_)
    ·have d:¬ag c=[48]:=by simpa using d
     have l:0<c:=Nat.pos_of_ne_zero λe=>d (bM.2 e);refine(zQ p c F r l g t.wf).mono ?_;rintro _ G ⟨rfl,z⟩;refine⟨_,_,_,rfl,?_⟩;have j:=mod_lt p l;exact iI (p%c) j ⟨c,p%c,rfl,rfl,r,Nat.lt_trans j r,by rw[<-K3];exact A,rfl,t.trans z⟩
    ·have d:ag c=[48]:=by simpa using d
     have E:=bM.1 d;subst E;refine⟨?_,t⟩;unfold Bc;rw[if_pos ⟨o,k⟩,bu,bu,<-A,Nat.gcd_zero_right];rfl)
   exact L n ⟨m,n,rfl,rfl,C,B,rfl,rfl,Ok.refl w⟩
noncomputable def mF:FD:=cG Tryz.f174 [([1,0,0,0],[0])]
abbrev nG  (r:OA) (m d:Nat):LV:=[(.slice r m d)]
theorem C5(a:OA)(n c:Nat)(h:ae)(Q:VH)(b:LL SS mF [1,0,0,0] [(.slice a n c)] h (KK SS mF [1,0,0] [] (EE SS mF Q))):FW SS 174 [(.slice a n c)] h Q:=cQ mF Tryz.func174 (ai b)
theorem pe(a:OA)(n c:Nat)  (i:Nat->OA->Nat->Nat->ae->Prop) (Q:VH) (step:∀(g:Nat)(r:OA)(m d:Nat)(k:Nat->Value)(h:ae),i g r m d h->au (decide (((m:Int):Int)>0)) (iP 177 (.slice r m d) (.int .i64 (wrap .i64 ((m:Int)-1))) λf=>xI .u64 (aj SS.P 150 h (.pointer (some f))) λe=>au (((e:Int)==0)) (xL (bG SS.P 177 (.slice r m d) none (some (.int .i64 (wrap .i64 ((m:Int)-1)))) none h) λa b c=>aI (ZS nG i) g [(.slice a b c)] h) (Q (.slice r m d) h)) (Q (.slice r m d) h)) (g:Nat) {r:OA} {m d:Nat} {h:ae} (j:i g r m d h):LL SS mF [1,0,0,0] (nG  r m d) h (KK SS mF [1,0,0] [] (EE SS mF Q)):=
 UX nG i (λg r m d k h j=>ai (step g r m d k h j)) g j
noncomputable def cZ:FD:=cG Tryz.f172 [([1,1,0,0,0],[0,3]),([1,1,0,0,0,1,0,1,1,0,1,0,0],[0,3,4,5,6])]
abbrev gn  (s:LB) (r:OA) (a b:Nat):LV:=[(strOf s),(.slice r a b)]
abbrev ja(s:LB)(r:OA)(b c:Nat)(a:Int)(i v:Int):LV:=[(strOf s),(.slice r b c),(.int .i64 a),(.int .u64 v),(.int .i64 i)]
theorem Hi(l:LB)(h:ae)(Q:VH)(a:LL SS cZ [1,1,0,0,0] [(strOf l),nA] h (KK SS cZ [1,1,0,0] [] (EE SS cZ Q))):FW SS 172 [(strOf l)] h Q:=cQ cZ Tryz.func172 (ai a)
theorem tA(l:LB)  (j:Nat->LB->OA->Nat->Nat->ae->Prop) (Q:VH) (step:∀(i:Nat)(s:LB)(r:OA)(f g:Nat)(m:Nat->Value)(h:ae),j i s r f g h->au (decide ((((s:LB).length:Int):Int)>0)) (xI .i64 (rQ true [(.int .i64 0),(.int .i64 (wrap .i64 (((s:LB).length:Int)-9)))]) λa=>LL SS cZ [1,1,0,0,0,1,0,1,1,0,1,0,0] (ja s r f g a a 0) h (KK SS cZ [1,0,1,1,0,1,0] [1,1,0,0,0] (RR cZ [1,1,0,0,0] (Zg gn j) i (KK SS cZ [1,1,0,0] [] (EE SS cZ Q))))) (FW SS 174 [(.slice r f g)] h λd e=>yL d λa b c=>Q (.slice a b c) e)) (i:Nat) {s:LB} {r:OA} {f g:Nat} {h:ae} (k:j i s r f g h):LL SS cZ [1,1,0,0,0] (gn  s r f g) h (KK SS cZ [1,1,0,0] [] (EE SS cZ Q)):=
 UY gn j (λi s r f g m h k=>ai (step i s r f g m h k)) i k
theorem tB(l:LB)(p:Nat->LB->OA->Nat->Nat->ae->Prop)(t:Nat)(s:LB)(r:OA)(n o:Nat)(m:Int)(k:Nat->Int->Int->ae->Prop)(Q:VH)(step:∀(j:Nat) (i v:Int) (u:Nat->Value) (h:ae),k j i v h->au (decide ((i:Int)<((s:LB).length:Int))) (xI .u8 (bP SS.P 9 (strOf s) (.int .i64 i)) λa=>aI (qP (ja s r n o m) k) j [(strOf s),(.slice r n o),(.int .i64 m),(.int .u64 (wrap .u64 (wrap .u64 (10*v)+wrap .u64 (wrap .u8 (a-48))))),(.int .i64 (wrap .i64 (i+1)))] h) (xR (aF SS.P 177 1 [(0,(.int .u64 v))]) h λ_ f g i=>xE (bI SS.P 177 177 (.slice r n o) (sA (h.next) f g) i) i λb c d _ e=>xS (bG SS.P 9 (strOf s) none (some (.int .i64 m)) none e) λa=>aI (Zg gn p) t [(strOf a),(.slice b c d)] e))(j:Nat){i v:Int}{h:ae}(q:k j i v h):LL SS cZ [1,1,0,0,0,1,0,1,1,0,1,0,0] (ja s r n o m i v) h (KK SS cZ [1,0,1,1,0,1,0] [1,1,0,0,0] (RR cZ [1,1,0,0,0] (Zg gn p) t (KK SS cZ [1,1,0,0] [] (EE SS cZ Q)))):=
 nu (ja s r n o m) k (λj i v u h q=>ai (step j i v u h q)) j q
noncomputable def aaL:FD:=cG Tryz.f206 []
theorem X5(x:Int)(h:ae)(Q:VH)(a:Q (.bool (((x:Int) !=x))) h):FW SS 206 [(.int .u64 x)] h Q:=cQ aaL Tryz.func206 (ai a)
noncomputable def aas:FD:=cG Tryz.f196 []
theorem Xk(x y:Int)(h:ae)(Q:VH)(g:FW SS 206 [(.int .u64 x)] h λe f=>yB e λd=>FW SS 206 [(.int .u64 y)] f λb c=>yB b λa=>au d (au a (Q (.int .i64 0) c) (Q (.int .i64 (-1)) c)) (au a (Q (.int .i64 1) c) (au (decide ((x:Int)<y)) (Q (.int .i64 (-1)) c) (au (decide ((x:Int)>y)) (Q (.int .i64 1) c) (Q (.int .i64 0) c))))):FW SS 196 [(.int .u64 x),(.int .u64 y)] h Q:=cQ aas Tryz.func196 (ai g)
noncomputable def aaK:FD:=cG Tryz.f165 []
theorem XZ(x:Int)(h:ae)(Q:VH)(a:Q (.bool (((x:Int) !=x))) h):FW SS 165 [(.int .i64 x)] h Q:=cQ aaK Tryz.func165 (ai a)
noncomputable def aar:FD:=cG Tryz.f195 []
theorem Xi(x y:Int)(h:ae)(Q:VH)(g:FW SS 165 [(.int .i64 x)] h λe f=>yB e λd=>FW SS 165 [(.int .i64 y)] f λb c=>yB b λa=>au d (au a (Q (.int .i64 0) c) (Q (.int .i64 (-1)) c)) (au a (Q (.int .i64 1) c) (au (decide ((x:Int)<y)) (Q (.int .i64 (-1)) c) (au (decide ((x:Int)>y)) (Q (.int .i64 1) c) (Q (.int .i64 0) c))))):FW SS 195 [(.int .i64 x),(.int .i64 y)] h Q:=cQ aar Tryz.func195 (ai g)
noncomputable def iw:FD:=cG Tryz.f186 [([1,1,0,1,0,0],[0,1,18,19])]
abbrev iy(a:OA)(n c:Nat)(b:OA)(m d:Nat)(i:Nat):LV:=[(.slice a n c),(.slice b m d),(iA n),(iA i)]
theorem EF(a:OA)(n c:Nat)(b:OA)(m d:Nat)(h:ae)(Q:VH)(e:au ((((n:Int):Int) !=(m:Int))) (FW SS 195 [(iA n),(iA m)] h λb c=>yI .i64 b λa=>Q (.int .i64 a) c) (LL SS iw [1,1,0,1,0,0] (iy a n c b m d 0) h (KK SS iw [1,1,0,1,0] [] (EE SS iw Q)))):FW SS 186 [(.slice a n c),(.slice b m d)] h Q:=cQ iw Tryz.func186 (ai e)
theorem sT(a:OA)(n c:Nat)(b:OA)(m d:Nat)  (q:Nat->Nat->ae->Prop) (Q:VH) (step:∀(p:Nat)(i:Nat)(s:Nat->Value)(h:ae),q p i h->au (decide (((i:Int):Int)<(n:Int))) (xP (aA SS.P 177 (.slice a n c) (.int .i64 (wrap .i64 (wrap .i64 ((n:Int)-1)-(i:Int))))) λo=>xI .u64 (aj SS.P 150 (room h 18) (.pointer (some o))) λl=>xP (aA SS.P 177 (.slice b m d) (.int .i64 (wrap .i64 (wrap .i64 ((n:Int)-1)-(i:Int))))) λk=>xI .u64 (aj SS.P 150 (room h 18) (.pointer (some k))) λj=>FW SS 196 [(.int .u64 l),(.int .u64 j)] (room h 18) λf g=>yI .i64 f λe=>au (((e:Int) !=0)) (Q (.int .i64 e) g) (aI (fj (iy a n c b m d) q) p [(.slice a n c),(.slice b m d),(iA n),(.int .i64 (wrap .i64 ((i:Int)+1)))] g)) (Q (.int .i64 0) h)) (p:Nat) {i:Nat} {h:ae} (r:q p i h):LL SS iw [1,1,0,1,0,0] (iy a n c b m d i) h (KK SS iw [1,1,0,1,0] [] (EE SS iw Q)):=
 dg (iy a n c b m d) q (λp i s h r=>ai (step p i s h r)) p r
noncomputable def QX:FD:=cG Tryz.f213 []
theorem MH(x y z:Int)(p:OA)(h:ae)(Q:VH)(d:xI .u64 (aj SS.P 150 h (.pointer p)) λc=>xI .u64 (ay SS.P .rem 150 (.int .u64 (wrap .u64 (wrap .u64 (x*c)+z))) (.int .u64 1000000000)) λb=>xI .u64 (ay SS.P .quo 150 (.int .u64 (wrap .u64 (wrap .u64 (x*c)+z))) (.int .u64 1000000000)) λa=>Q (.tuple ⟨[(.int .u64 b),(.int .u64 a)]⟩) h):FW SS 213 [(.int .u64 x),(.int .u64 y),(.int .u64 z),(.pointer p)] h Q:=cQ QX Tryz.func213 (ai d)
noncomputable def iq:FD:=cG Tryz.f193 [([1,1,1,0,1,0,0],[0,1,2,7,8,18,19])]
abbrev eM(a:OA)(n c:Nat)(p:OA)(b:Int)(i:Nat)(cy:Int)(r:OA)(d e:Nat):LV:=[(.slice a n c),nA,(.func (.func 213) ⟨[]⟩ ⟨[(.pointer p)]⟩),(.slice r d e),(.int .u64 cy),(.int .i64 b),(iA i)]
theorem Eu(a:OA)(n c:Nat)(p:OA)(h:ae)(Q:VH)(d:xI .i64 (rQ true [(iA n),(.int .i64 0)]) λb=>LL SS iq [1,1,1,0,1,0,0] [(.slice a n c),nA,(.func (.func 213) ⟨[]⟩ ⟨[(.pointer p)]⟩),nA,(.int .u64 0),(.int .i64 (wrap .i64 (b+1))),(.int .i64 0)] h (KK SS iq [1,1,1,0,1,0] [] (EE SS iq Q))):FW SS 193 [(.slice a n c),nA,(.func (.func 213) ⟨[]⟩ ⟨[(.pointer p)]⟩)] h Q:=cQ iq Tryz.func193 (ai d)
theorem sS(a:OA)(n c:Nat)(p:OA)(v:Int)(w:Nat->Nat->Int->OA->Nat->Nat->ae->Prop)(Q:VH)(step:∀(z:Nat) (i:Nat) (cy:Int) (r:OA) (x y:Nat) (B:Nat->Value) (h:ae),w z i cy r x y h->au (decide (((i:Int):Int)<v)) (au (decide (((i:Int):Int)<(n:Int))) (iP 177 (.slice a n c) (iA i) λu=>xI .u64 (aj SS.P 150 h (.pointer (some u))) λt=>au (decide (((i:Int):Int)<0)) (iP 177 nA (iA i) λs=>xI .u64 (aj SS.P 150 h (.pointer (some s))) λq=>FW SS 213 [(.int .u64 t),(.int .u64 q),(.int .u64 cy),(.pointer p)] h λm o=>∃l:Int,∃k:Int,m=(.tuple ⟨[(.int .u64 l),(.int .u64 k)]⟩)/\xR (aF SS.P 177 1 [(0,(.int .u64 l))]) o λ_ g h j=>xE (bI SS.P 177 177 (.slice r x y) (sA (o.next) g h) j) j λb d e _ f=>aI (BW (eM a n c p v) w) z [(.slice a n c),nA,(.func (.func 213) ⟨[]⟩ ⟨[(.pointer p)]⟩),(.slice b d e),(.int .u64 k),(.int .i64 v),(.int .i64 (wrap .i64 ((i:Int)+1)))] f) (FW SS 213 [(.int .u64 t),(.int .u64 0),(.int .u64 cy),(.pointer p)] h λm o=>∃l:Int,∃k:Int,m=(.tuple ⟨[(.int .u64 l),(.int .u64 k)]⟩)/\xR (aF SS.P 177 1 [(0,(.int .u64 l))]) o λ_ g h j=>xE (bI SS.P 177 177 (.slice r x y) (sA (o.next) g h) j) j λb d e _ f=>aI (BW (eM a n c p v) w) z [(.slice a n c),nA,(.func (.func 213) ⟨[]⟩ ⟨[(.pointer p)]⟩),(.slice b d e),(.int .u64 k),(.int .i64 v),(.int .i64 (wrap .i64 ((i:Int)+1)))] f)) (au (decide (((i:Int):Int)<0)) (iP 177 nA (iA i) λs=>xI .u64 (aj SS.P 150 h (.pointer (some s))) λq=>FW SS 213 [(.int .u64 0),(.int .u64 q),(.int .u64 cy),(.pointer p)] h λm o=>∃l:Int,∃k:Int,m=(.tuple ⟨[(.int .u64 l),(.int .u64 k)]⟩)/\xR (aF SS.P 177 1 [(0,(.int .u64 l))]) o λ_ g h j=>xE (bI SS.P 177 177 (.slice r x y) (sA (o.next) g h) j) j λb d e _ f=>aI (BW (eM a n c p v) w) z [(.slice a n c),nA,(.func (.func 213) ⟨[]⟩ ⟨[(.pointer p)]⟩),(.slice b d e),(.int .u64 k),(.int .i64 v),(.int .i64 (wrap .i64 ((i:Int)+1)))] f) (FW SS 213 [(.int .u64 0),(.int .u64 0),(.int .u64 cy),(.pointer p)] h λm o=>∃l:Int,∃k:Int,m=(.tuple ⟨[(.int .u64 l),(.int .u64 k)]⟩)/\xR (aF SS.P 177 1 [(0,(.int .u64 l))]) o λ_ g h j=>xE (bI SS.P 177 177 (.slice r x y) (sA (o.next) g h) j) j λb d e _ f=>aI (BW (eM a n c p v) w) z [(.slice a n c),nA,(.func (.func 213) ⟨[]⟩ ⟨[(.pointer p)]⟩),(.slice b d e),(.int .u64 k),(.int .i64 v),(.int .i64 (wrap .i64 ((i:Int)+1)))] f))) (FW SS 174 [(.slice r x y)] h λd e=>yL d λa b c=>Q (.slice a b c) e))(z:Nat){i:Nat}{cy:Int}{r:OA}{x y:Nat}{h:ae}(A:w z i cy r x y h):LL SS iq [1,1,1,0,1,0,0] (eM a n c p v i cy r x y) h (KK SS iq [1,1,1,0,1,0] [] (EE SS iq Q)):=
 F0 (eM a n c p v) w (λz i cy r x y B h A=>ai (step z i cy r x y B h A)) z A
noncomputable def JG:FD:=cG Tryz.f202 []
theorem Hl(a:OA)(n c:Nat)(k:Int)(h:ae)(Q:VH)(g:xN (eK SS.P 150 (.int .u64 k)) h λ_ f=>FW SS 193 [(.slice a n c),nA,(.func (.func 213) ⟨[]⟩ ⟨[(pA (h.next))]⟩)] f λd e=>yL d λa b c=>Q (.slice a b c) e):FW SS 202 [(.slice a n c),(.int .u64 k)] h Q:=cQ JG Tryz.func202 (ai g)
def uv(d:Nat):Value:= .int .u64 (d:Int)
theorem AX:SS.P.underlying 177=some (.slice 150):=by kernel_rfl
theorem Oi:SS.P.underlying 150=some (.int .u64):=by kernel_rfl
theorem Ea:aE SS.P 150=some 1:=by kernel_rfl
theorem Nq:Go.Ab.isAgg SS.P 150=false:=by kernel_rfl
noncomputable def UG:TypeInfo:=(eS SS.P 150).getD default
theorem J0:eS SS.P 150=some UG:=by kernel_rfl
theorem Dm:UG.size=1:=by kernel_rfl
theorem AQ:UG.bytes=8:=by kernel_rfl
theorem sK(z:Int):aF SS.P 177 1 [(0,.int .u64 z)]=some (.cells [.int .u64 z] 150 1 true,mL 1 1):=by kernel_rfl
theorem mc(d:Wf g)(e:Ok g h){v:Value}{a:List Value}(o:ej g h 150 v a)(z:Int)(f:a.length<=100000):
  ∃(b:Option Addr)(n c:Nat)(u:dM),bI SS.P 177 177 v (.slice (some ⟨h.next,0,none⟩) 1 1) (h.push (.cells [.int .u64 z] 150 1 true))=some (.slice b n c,u)/\n=a.length+1/\ej g (u.app (h.push (.cells [.int .u64 z] 150 1 true))) 150 (.slice b n c) (a++[.int .u64 z])/\Ok g (u.app (h.push (.cells [.int .u64 z] 150 1 true))):=
 ej.snoc AX J0 Dm d e o rfl (by rw[AQ];omega) (by omega)
theorem TK(l:List Nat)(i:Nat)(h:i<l.length):(l.map uv).getD i undef = .int .u64 (l.getD i 0:Nat):=by
 simp[gD,getElem?_map,gE h,uv]
theorem Fc(r:Rd h 150 v (x.map uv)){i:Int}(d:0<=i)(b:i<x.length):
  ∃p:Addr,aA SS.P 177 v (.int .i64 i)=some (.pointer (some p))/\aj SS.P 150 h (.pointer (some p))=some (.int .u64 (x.getD i.toNat 0:Nat)):=by
 obtain⟨p,c,a⟩:=r.at_ AX Ea Oi Nq (k:= .i64) d (by rw[lM];exact b);rw[TK x _ (by omega)]at a;exact⟨p,c,a⟩
theorem rS{c:Nat}(o:ej g h 150 (.slice a n c) (x.map uv))(D:x.length<=100000):
  FW SS 174 [.slice a n c] h (λv u=>∃k f e,v = .slice k f e/\ej g h 150 (.slice k f e) ((dQ x).map uv)/\u=h):=by
 have A:n=x.length:=by have:=o.len;rwa[lM]at this
 have L:=pe a n c (λb r m d J=>m<=x.length/\b=m/\ej g h 150 (.slice r m d) ((x.take m).map uv)/\dQ x=dQ (x.take m)/\J=h) (λv u=>∃k f e,v = .slice k f e/\ej g h 150 (.slice k f e) ((dQ x).map uv)/\u=h) (by
  intro b r m d;intros;rename_i J I;obtain⟨K,rfl,t,w,rfl⟩:=I;have H:wrap .i64 ((b:Int)-1)=(b:Int)-1:=aB (by omega) (by omega);rw[H];have s:b≠0->x.take b=x.take (b-1)++[x.getD (b-1) 0]:=λs=>by
   obtain⟨j,rfl⟩:∃j,b=j+1:=⟨b-1,by omega⟩
   rw[List.take_succ_eq_append_getElem (by omega),Nat.add_sub_cancel,gD,gE (by omega)];rfl
  refine aa (λq=>?_) (λq=>?_)
  ·have q:=dT q;obtain⟨p,F,C⟩:=Fc t.rd (i:=(b:Int)-1) (by omega) (by rw[length_take];omega);have E:(x.take b).getD ((b:Int)-1).toNat 0=x.getD (b-1) 0:=by
    rw[show((b:Int)-1).toNat=b-1 by omega,gD,List.getElem?_take,if_pos (by omega),gD]
   rw[E]at C;refine⟨p,F,_,C,aa (λl=>?_) (λl=>?_)⟩
   ·have l:((x.getD (b-1) 0:Nat):Int)=0:=by simpa using l
    have l:x.getD (b-1) 0=0:=by omega
    obtain⟨k,f,e,G,y⟩:=t.upto AX Ea (z:=b-1) (by rw[lM,length_take];omega) (by rw[lM,length_take];omega);rw[show((b:Int)-1)=((b-1:Nat):Int) by omega];have B:f=b-1:=by have:=y.len;rw[length_take,lM,length_take]at this;omega
    subst B;refine⟨k,_,e,G,Jo (b-1) (by omega) ⟨by omega,rfl,?_,?_,rfl⟩⟩
    ·rw[<-List.map_take,List.take_take,Nat.min_eq_left (by omega)]at y;exact y
    ·rw[w,s (by omega),l,iZ]
   ·have l:¬((x.getD (b-1) 0:Nat):Int)=0:=by simpa using l
    refine⟨r,b,d,rfl,?_,rfl⟩;rw[w,s (by omega),jN _ (by omega),<-s (by omega)];exact t
  ·have q:=dF q;obtain rfl:b=0:=by omega
   refine⟨r,0,d,rfl,?_,rfl⟩;rw[w];exact t)
 exact C5 a n c h _ (L n ⟨by omega,rfl,by rw[show x.take n=x by rw[A,List.take_length]];exact o,by rw[show x.take n=x by rw[A,List.take_length]],rfl⟩)
theorem ES{l:List UInt8}(h:i<l.length):Num.val (l.take (i+1))=10*Num.val (l.take i)+jo (l.getD i 0):=sJ (LK h)
theorem Q3(l:List UInt8){h:ae}{b:Nat}(c:b<=l.length):bG SS.P 9 (strOf l) none (some (.int .i64 (b:Int))) none h=some (strOf (l.take b)):=oA (a:=0) YP l rfl rfl (by omega) c
theorem IP(b:n=s.length-9)(a:0<s.length):Num.val s=Num.val (s.drop n)+10^(s.length-n)*Num.val (s.take n):=by
 have:=jO (s.take n) (s.drop n);rw[List.take_append_drop,length_drop,Nat.mul_comm]at this;omega
theorem rR(l:List UInt8)(hd:l.all bR=true)(k:l.length<=10000)(h:ae)(w:Wf h):FW SS 172 [strOf l] h (iV h 150 ((aW 1000000000 (Num.val l)).map uv)):=by
 have Y:=tA l (λA s r o t g=>A=s.length/\s.all bR=true/\s.length<=10000/\Ok h g/\∃a:List Nat,(∀d∈a,d<1000000000)/\a.length+s.length<=10000/\ej h g 150 (.slice r o t) (a.map uv)/\Num.val l=Num.bv 1000000000 a+1000000000^a.length*Num.val s) (iV h 150 ((aW 1000000000 (Num.val l)).map uv)) (by
  intro A s r o t;intros;rename_i g X;obtain⟨rfl,p,x2,Q,a,C,x0,O,I⟩:=X;refine aa (λz=>?_) (λz=>?_)
  ·have z:=dT z;have U:wrap .i64 ((s.length:Int)-9)=(s.length:Int)-9:=aB (by omega) (by omega);rw[U];have E:(if(s.length:Int)-9>0 then(s.length:Int)-9 else 0)=((s.length-9:Nat):Int):=by split<;>omega
   refine⟨_,tx _ _ _,?_⟩;rw[E];have T:=tB l (λA s r o t g=>A=s.length/\s.all bR=true/\s.length<=10000/\Ok h g/\∃a:List Nat,(∀d∈a,d<1000000000)/\a.length+s.length<=10000/\ej h g 150 (.slice r o t) (a.map uv)/\Num.val l=Num.bv 1000000000 a+1000000000^a.length*Num.val s) s.length s r o t ((s.length-9:Nat):Int)
    (λq i v B=>∃j:Nat,i=(s.length-9:Nat)+(j:Int)/\s.length-9+j<=s.length/\q=s.length-(s.length-9+j)/\v=(Num.val ((s.drop (s.length-9)).take j):Nat)/\B=g) (iV h 150 ((aW 1000000000 (Num.val l)).map uv)) (by
    intro q i v;intros;rename_i B P;obtain⟨j,rfl,hj,x3,rfl,rfl⟩:=P;have D:(s.drop (s.length-9)).all bR=true:=by
     rw[all_eq_true]at p⊢;exact λx c=>p x (List.mem_of_mem_drop c)
    have F:=wX (l:=(s.drop (s.length-9)).take j) (by
     rw[all_eq_true]at D⊢;exact λx c=>D x (List.mem_of_mem_take c))
    have f:Num.val ((s.drop (s.length-9)).take j)<1000000000:=by
     refine Nat.lt_of_lt_of_le F (Nat.le_trans (Nat.pow_le_pow_right (by omega) (show _<=9 by rw[length_take,length_drop];omega)) (by decide))
    refine aa (λe=>?_) (λe=>?_)
    ·have e:=dT e;have H:s.length-9+j<s.length:=by omega
     have y:=Cm p H;have x4:=lk.1 y;have x1:=qU y;refine⟨_,Be (h:=B) s (by omega) e,?_⟩;have G:(((s.length-9:Nat):Int)+(j:Int)).toNat=s.length-9+j:=by omega
     rw[G];have R:wrap .u8 ((((s.getD (s.length-9+j) 0).toNat:Nat):Int)-48)=(jo (s.getD (s.length-9+j) 0):Nat):=by
      rw[sy (by omega) (by omega)];unfold jo;omega
     have e2:(s.drop (s.length-9)).getD j 0=s.getD (s.length-9+j) 0:=by
      rw[gD,List.getElem?_drop,gD]
     have N:=ES (l:=s.drop (s.length-9)) (i:=j) (by rw[length_drop];omega);rw[e2]at N;dsimp only;rw[R,gL (n:=((jo (s.getD (s.length-9+j) 0):Nat):Int)) (by omega) (by omega),gL (n:=10*((Num.val ((s.drop (s.length-9)).take j):Nat):Int)) (by omega) (by omega),gL (by omega) (by omega),aB (n:=((s.length-9:Nat):Int)+(j:Int)+1) (by omega) (by omega)];exact iI (q-1) (by omega) ⟨j+1,by omega,by omega,by omega,by rw[N];omega,rfl⟩
    ·have e:=dF e;have K:(s.drop (s.length-9)).take j=s.drop (s.length-9):=take_of_length_le (by rw[length_drop];omega);rw[K]at f⊢;refine⟨_,_,_,sK _,?_⟩;obtain⟨b,m,d,u,V,g7,S,g9⟩:=mc w Q O ((Num.val (s.drop (s.length-9)):Nat):Int) (by rw[lM];omega);refine⟨b,m,d,u,V,?_⟩;refine⟨_,Q3 s (show s.length-9<=s.length by omega),?_⟩;refine Td (s.take (s.length-9)).length (by rw[length_take];omega) ⟨rfl,?_,by rw[length_take];omega,g9,a++[Num.val (s.drop (s.length-9))],?_,?_,?_,?_⟩
     ·rw[all_eq_true]at p⊢;exact λx c=>p x (List.mem_of_mem_take c)
     ·intro x c;rcases mem_append.1 c with c|c
      ·exact C x c
      ·rw[mem_singleton.1 c];exact f
     ·rw[List.length_append,length_take];simp;omega
     ·rw[map_append];exact S
     ·rw[qv,List.length_append,I,IP (s:=s) rfl (by omega),List.length_singleton];rcases lt_or_ge s.length 10 with W|W
      ·rw[show s.length-9=0 by omega,take_zero,jP];simp
      ·rw[show s.length-(s.length-9)=9 by omega,show(10:Nat)^9=1000000000 from rfl,Nat.pow_succ,Nat.mul_add,Nat.mul_assoc];omega)
   exact T _ ⟨0,by omega,by omega,rfl,by simp[jP],rfl⟩
  ·have z:=dF z;obtain rfl:s=[]:=List.eq_nil_of_length_eq_zero (by omega);refine(rS O (by omega)).mono ?_;rintro _ B ⟨M,L,J,rfl,Z,rfl⟩;refine⟨M,L,J,rfl,M,L,J,rfl,?_,Q⟩;rw[I,jP,Nat.mul_zero,Nat.add_zero,<-kX (by omega) C];exact Z)
 exact Hi l h _ (Y l.length ⟨rfl,hd,k,Ok.refl w,[],by simp,by simpa using k,.inl ⟨rfl,rfl⟩,by simp[Num.bv]⟩)
variable{j:Nat}{P:Program}
theorem NP(x:Int)(h:ae):FW SS 206 [.int .u64 x] h (λv a=>v = .bool false/\a=h):=X5 x h _ ⟨by simp,rfl⟩
theorem NO(x:Int)(h:ae):FW SS 165 [.int .i64 x] h (λv a=>v = .bool false/\a=h):=XZ x h _ ⟨by simp,rfl⟩
theorem Xl(m n:Nat)(h:ae):FW SS 196 [.int .u64 (m:Int),.int .u64 (n:Int)] h (λv c=>v = .int .i64 (eG m n)/\c=h):=by
 refine Xk _ _ h _ ((NP _ h).mono ?_);rintro _ _ ⟨rfl,rfl⟩;refine⟨_,rfl,(NP _ _).mono ?_⟩;rintro _ _ ⟨rfl,rfl⟩;refine⟨_,rfl,aa (λe=>by cases e) (λ_=>aa (λe=>by cases e) (λ_=>aa (λa=>?_) (λa=>aa (λb=>?_) (λb=>?_))))⟩
 ·exact⟨by rw[lj (by have:=dT a;omega)],rfl⟩
 ·exact⟨by rw[lh (by have:=dT b;omega)],rfl⟩
 ·have a:=dF a;have b:=dF b;exact⟨by rw[show m=n by omega,qw],rfl⟩
theorem Xj(m n:Nat)(h:ae):FW SS 195 [.int .i64 (m:Int),.int .i64 (n:Int)] h (λv c=>v = .int .i64 (eG m n)/\c=h):=by
 refine Xi _ _ h _ ((NO _ h).mono ?_);rintro _ _ ⟨rfl,rfl⟩;refine⟨_,rfl,(NO _ _).mono ?_⟩;rintro _ _ ⟨rfl,rfl⟩;refine⟨_,rfl,aa (λe=>by cases e) (λ_=>aa (λe=>by cases e) (λ_=>aa (λa=>?_) (λa=>aa (λb=>?_) (λb=>?_))))⟩
 ·exact⟨by rw[lj (by have:=dT a;omega)],rfl⟩
 ·exact⟨by rw[lh (by have:=dT b;omega)],rfl⟩
 ·have a:=dF a;have b:=dF b;exact⟨by rw[show m=n by omega,qw],rfl⟩
abbrev BB:Nat:=1000000000
abbrev bl(n:Nat):List Value:=(aW BB n).map uv
theorem gH:1<BB:=by decide
theorem qm{b:Option Addr}{c:Nat}{x:Nat}(E:Rd h 150 (.slice a n c) (bl x))(D:Rd h 150 (.slice b m k) (bl j))(I:(aW BB x).length<=10000)(w:Wf h):
  FW SS 186 [.slice a n c,.slice b m k] h (λv u=>v = .int .i64 (eG x j)/\Ok h u):=by
 have O:n=(aW BB x).length:=by have:=E.len;rwa[lM]at this
 have P:m=(aW BB j).length:=by have:=D.len;rwa[lM]at this
 have L:=λ(C:(aW BB x).length=(aW BB j).length)=>sT a n c b m k (λs i g=>i<=n/\s=n-i/\(aW BB x).drop (n-i)=(aW BB j).drop (n-i)/\Ok h g) (λv u=>v = .int .i64 (eG x j)/\Ok h u) (by
  intro s i;intros;rename_i g M;obtain⟨f,o,t,G⟩:=M;have B:wrap .i64 ((n:Int)-1)=(n:Int)-1:=aB (by omega) (by omega);have z:wrap .i64 ((n:Int)-1-(i:Int))=(n:Int)-1-(i:Int):=aB (by omega) (by omega);have A:wrap .i64 ((i:Int)+1)=((i+1:Nat):Int):=by rw[aB (by omega) (by omega)];omega
  rw[B,z,A];have l:=G.room 18;refine aa (λr=>?_) (λr=>?_)
  ·have r:=dT r;have N:((n:Int)-1-(i:Int)).toNat=n-1-i:=by omega
   obtain⟨p,J,H⟩:=Fc (E.ok l) (i:=(n:Int)-1-(i:Int)) (by omega) (by omega);obtain⟨q,K,F⟩:=Fc (D.ok l) (i:=(n:Int)-1-(i:Int)) (by omega) (by omega);rw[N]at H F;refine⟨p,J,_,H,q,K,_,F,(Xl _ _ _).mono ?_⟩;rintro _ _ ⟨rfl,rfl⟩;have y:(aW BB x).drop (n-1-i+1)=(aW BB j).drop (n-1-i+1):=by rw[show n-1-i+1=n-i by omega];exact t
   refine⟨_,rfl,aa (λd=>?_) (λd=>?_)⟩
   ·refine⟨?_,l⟩;have d:eG ((aW BB x).getD (n-1-i) 0) ((aW BB j).getD (n-1-i) 0)≠0:=by simpa using d
    rcases Nat.lt_trichotomy ((aW BB x).getD (n-1-i) 0) ((aW BB j).getD (n-1-i) 0)with e|e|e
    ·have:=sY gH (dq gH x) C (by omega) y e;rw[cm gH,cm gH]at this;rw[lj e,lj this]
    ·rw[e,qw]at d;exact absurd rfl d
    ·have:=sY gH (dq gH j) C.symm (by omega) y.symm e;rw[cm gH,cm gH]at this;rw[lh e,lh this]
   ·have d:eG ((aW BB x).getD (n-1-i) 0) ((aW BB j).getD (n-1-i) 0)=0:=by simpa using d
    have e:(aW BB x).getD (n-1-i) 0=(aW BB j).getD (n-1-i) 0:=by
     unfold eG at d;split at d
     ·cases d
     ·split at d
      ·assumption
      ·cases d
    refine bZ (s-1) (by omega) ⟨by omega,by omega,?_,l⟩;rw[show n-(i+1)=n-1-i by omega,drop_eq_getElem_cons (show n-1-i<(aW BB x).length by omega),drop_eq_getElem_cons (show n-1-i<(aW BB j).length by omega),y];congr 1;rw[gD,gE (by omega),gD,gE (by omega)]at e;exact e
  ·have r:=dF r;rw[show n-i=0 by omega,drop_zero,drop_zero]at t;have:x=j:=by rw[<-cm gH x,t,cm gH]
   exact⟨by rw[this,qw],G⟩)
 refine EF a n c b m k h _ (aa (λf=>(Xj _ _ h).mono ?_) (λf=>?_))
 ·rintro _ _ ⟨rfl,rfl⟩;have f:=L7 f;refine⟨_,rfl,?_,Ok.refl w⟩;rcases Nat.lt_trichotomy n m with o|o|o
  ·rw[lj o,lj (lN gH (by omega))]
  ·exact absurd o f
  ·rw[lh o,lh (lN gH (by omega))]
 ·have f:=LA f;refine L (by omega) n (i:=0) ⟨by omega,by omega,?_,Ok.refl w⟩;rw[sub_zero,List.drop_of_length_le (by omega),List.drop_of_length_le (by omega)]
theorem Jw{t:TypeId}{p:Value}(o:Ok h g)(a:aj P t h p=some v):aj P t g p=some v:=by
 unfold aj at a⊢;split at a
 ·next c=>
  split at a
  ·next cs _ _ _ b=>rw[o.ext _ _ b];exact a
  ·cases a
 ·cases a
theorem MJ{p:Option Addr}(g:aj SS.P 150 h (.pointer p)=some (.int .u64 (k:Int)))(x y z:Nat)(c:x<BB)(e:k<=BB)(l:z<BB):
  FW SS 213 [.int .u64 (x:Int),.int .u64 (y:Int),.int .u64 (z:Int),.pointer p] h (λv d=>v = .tuple ⟨[uv (cX BB k x y z).1,uv (cX BB k x y z).2]⟩/\d=h):=by
 have i:BB=1000000000:=rfl;have j:x*k<=1000000000000000000:=Nat.le_trans (Nat.mul_le_mul (Nat.le_of_lt c) e) (by decide);have a:wrap .u64 ((x:Int)*(k:Int))=((x*k:Nat):Int):=by rw[<-Int.natCast_mul];exact gL (by omega) (by omega)
 have f:wrap .u64 (((x*k:Nat):Int)+(z:Int))=((x*k+z:Nat):Int):=by rw[<-Int.natCast_add];exact gL (by omega) (by omega)
 refine MH _ _ _ p h _ ⟨_,g,?_⟩;dsimp only;rw[a,f];refine⟨_,gK (b:=BB) (by omega) (by decide),_,pS (b:=BB) (by omega) (by omega) (by decide),?_,rfl⟩;unfold uv cX;rw[Int.natCast_emod,Int.natCast_ediv]
theorem Ev{c:Nat}{p:Option Addr}(S:Rd h 150 (.slice a n c) (x.map uv))(C:∀d∈x,d<BB)(x0:x.length<=10000)(hp:aj SS.P 150 h (.pointer p)=some (.int .u64 (k:Int)))(A:0<k)(E:k<=BB)(w:Wf h):
  FW SS 193 [.slice a n c,.slice none 0 0,.func (.func 213) ⟨[]⟩ ⟨[.pointer p]⟩] h (iV h 150 (bl (Num.bv BB x*k))):=by
 have hn:n=x.length:=by have:=S.len;rwa[lM]at this
 have Z:BB=1000000000:=rfl;have hF:∀p q c,c<=BB-1->p<BB->(cX BB k p q c).2<=BB-1:=λp q c hc hp=>by
  unfold cX;dsimp only;have h1:p*k<=999999999*1000000000:=Nat.mul_le_mul (by omega) E;have:(p*k+c)/BB<BB:=Nat.div_lt_of_lt_mul (by rw[Z];omega);omega
 have T:∀j,eJ (cX BB k) x [] 0 0 j<=BB-1:=by
  intro j
  induction j with
  |zero=>exact Nat.zero_le _
  |succ j ih=>exact hF _ _ _ ih (aZ (by decide) C _)
 have W:dQ (bk (cX BB k) x [] 0 (n+1) 0)=aW BB (Num.bv BB x*k):=by
  rw[kX gH (jq (λp q c=>mod_lt _ (by decide)) x [] (n+1) 0 0),K9 gH E A C (n+1) 0 0 (by omega) A (by omega)];rw[drop_zero,Nat.add_zero]
 have L:=sS a n c p ((n:Int)+1) (λz i cy r N P g=>i<=n+1/\z=n+1-i/\cy=(eJ (cX BB k) x [] 0 0 i:Nat)/\ej h g 150 (.slice r N P) ((bk (cX BB k) x [] 0 i 0).map uv)/\Ok h g) (iV h 150 (bl (Num.bv BB x*k))) (by
  intro z i cy r N P;intros;rename_i g hi;obtain⟨h1,h2,rfl,F,v⟩:=hi;have K:wrap .i64 ((i:Int)+1)=((i+1:Nat):Int):=by rw[aB (by omega) (by omega)];omega
  rw[K];have l:(bk (cX BB k) x [] 0 i 0).length=i:=eV _ _ _ _ _ _;have f:=hW (cX BB k) x [] i 0 0;rw[Nat.zero_add]at f;have o:eJ (cX BB k) x [] 0 0 (i+1)=(cX BB k (x.getD i 0) (([]:List Nat).getD i 0) (eJ (cX BB k) x [] 0 0 i)).2:=by
   show(cX BB k (x.getD (0+i) 0) (([]:List Nat).getD (0+i) 0) _).2=_;rw[Nat.zero_add]
  have x1:=T i;have X:=aZ (b:=BB) (by decide) C i;have O:=Jw v hp;have U:=MJ O (x.getD i 0) (([]:List Nat).getD i 0) (eJ (cX BB k) x [] 0 0 i) X E (by omega);have M:([]:List Nat).getD i 0=0:=by simp
  refine aa (λy=>?_) (λy=>?_)
  ·have y:=dT y;refine aa (λt=>?_) (λt=>?_)
   ·have t:=dT t;obtain⟨q,J,g3⟩:=Fc (S.ok v) (i:=(i:Int)) (by omega) (by omega);rw[Int.toNat_natCast]at g3;refine⟨q,J,_,g3,aa (λs=>?_) (λs=>?_)⟩
    ·have:=dT s;omega
    ·refine(show FW SS 213 [.int .u64 ((x.getD i 0:Nat):Int),.int .u64 ((([]:List Nat).getD i 0:Nat):Int),.int .u64 ((eJ (cX BB k) x [] 0 0 i:Nat):Int),.pointer p] g _ from U).mono ?_ |> (λe=>by rw[M]at e;exact e)
     rintro _ _ ⟨rfl,rfl⟩;refine⟨_,_,rfl,_,_,_,sK _,?_⟩;obtain⟨b,m,d,u,D,g7,B,G⟩:=mc w v F ((cX BB k (x.getD i 0) (([]:List Nat).getD i 0) (eJ (cX BB k) x [] 0 0 i)).1:Nat) (by rw[lM,l];omega);refine⟨b,m,d,u,D,oW (z-1) (by omega) ⟨by omega,by omega,by rw[o],?_,G⟩⟩;rw[f,map_append];exact B
   ·have t:=dF t;have V:x.getD i 0=0:=by rw[gD,List.getElem?_eq_none (by omega)];rfl
    refine aa (λs=>?_) (λs=>?_)
    ·have:=dT s;omega
    ·refine(show FW SS 213 [.int .u64 ((x.getD i 0:Nat):Int),.int .u64 ((([]:List Nat).getD i 0:Nat):Int),.int .u64 ((eJ (cX BB k) x [] 0 0 i:Nat):Int),.pointer p] g _ from U).mono ?_ |> (λe=>by rw[M,V]at e;exact e)
     rintro _ _ ⟨rfl,rfl⟩;refine⟨_,_,rfl,_,_,_,sK _,?_⟩;obtain⟨b,m,d,u,D,g7,B,G⟩:=mc w v F ((cX BB k (x.getD i 0) (([]:List Nat).getD i 0) (eJ (cX BB k) x [] 0 0 i)).1:Nat) (by rw[lM,l];omega);refine⟨b,m,d,u,D,oW (z-1) (by omega) ⟨by omega,by omega,by rw[o],?_,G⟩⟩;rw[f,map_append];exact B
  ·have y:=dF y;obtain rfl:i=n+1:=by omega
   refine(rS F (by rw[l];omega)).mono ?_;rintro _ J ⟨R,Q,I,rfl,Y,rfl⟩;rw[W]at Y;exact⟨R,Q,I,rfl,R,Q,I,rfl,Y,v⟩)
 refine Eu a n c p h _ ⟨_,tx _ _ _,?_⟩;have H:(if(0:Int)>(n:Int)then(0:Int)else(n:Int))=(n:Int):=if_neg (by omega);have hw:wrap .i64 ((n:Int)+1)=(n:Int)+1:=aB (by omega) (by omega);dsimp only;rw[H,hw];exact L (n+1) (i:=0) ⟨by omega,by omega,rfl,.inl ⟨rfl,rfl⟩,Ok.refl w⟩
noncomputable def bC:FD:=cG Tryz.f203 [([1,1,1,1,0,0,0],[0,1,5,7,8]),([1,1,1,1,1,1,0,1,0,0],[0,1,5,7,9,10,87,88]),([1,1,1,1,1,1,1,1,1,0,1,0,0],[0,1,5,7,10,128,129])]
abbrev eO(a:OA)(n c:Nat)(b:OA)(m d:Nat)(q e:Int):LV:=[(.slice a n c),(.slice b m d),(iA m),(.int .u64 q),(.int .u64 e)]
abbrev dw(a:OA)(n c:Nat)(b:OA)(m d:Nat)(q e:Int)(i:Nat)(f cy:Int):LV:=[(.slice a n c),(.slice b m d),(iA m),(.int .u64 q),(.int .u64 f),(.int .u64 cy),(.int .i64 e),(iA i)]
abbrev gQ(a:OA)(n c:Nat)(b:OA)(m d:Nat)(q e:Int)(i:Nat)(cy:Int):LV:=[(.slice a n c),(.slice b m d),(iA m),(.int .u64 q),(.int .u64 cy),(.int .i64 e),(iA i)]
theorem JC(a:OA)(n c:Nat)(b:OA)(m d:Nat)(h:ae)(Q:VH)(r:iP 177 (.slice a n c) (iA m) λq=>xI .u64 (aj SS.P 150 (room h 12) (.pointer (some q))) λp=>iP 177 (.slice a n c) (.int .i64 (wrap .i64 ((m:Int)-1))) λo=>xI .u64 (aj SS.P 150 (room h 12) (.pointer (some o))) λl=>iP 177 (.slice b m d) (.int .i64 (wrap .i64 ((m:Int)-1))) λk=>xI .u64 (aj SS.P 150 (room (room h 12) 16) (.pointer (some k))) λj=>xI .u64 (ay SS.P .quo 150 (.int .u64 (wrap .u64 (wrap .u64 (p*1000000000)+l))) (.int .u64 j)) λi=>iP 177 (.slice b m d) (.int .i64 (wrap .i64 ((m:Int)-1))) λg=>xI .u64 (aj SS.P 150 (room (room h 12) 16) (.pointer (some g))) λf=>xI .u64 (ay SS.P .rem 150 (.int .u64 (wrap .u64 (wrap .u64 (p*1000000000)+l))) (.int .u64 f)) λe=>LL SS bC [1,1,1,1,0,0,0] (eO a n c b m d i e) (room (room h 12) 16) (KK SS bC [1,1,1,1,0,0] [] (EE SS bC Q))):FW SS 203 [(.slice a n c),(.slice b m d)] h Q:=cQ bC Tryz.func203 (ai r)
theorem uX(a:OA)(n c:Nat)(b:OA)(m d:Nat)  (o:Nat->Int->Int->ae->Prop) (Q:VH) (step:∀(p:Nat)(q l:Int)(s:Nat->Value)(h:ae),o p q l h->au (decide ((q:Int)>=1000000000)) (iP 177 (.slice b m d) (.int .i64 (wrap .i64 ((m:Int)-1))) λf=>xI .u64 (aj SS.P 150 (room h 28) (.pointer (some f))) λe=>au (decide ((wrap .u64 (l+e):Int)>=1000000000)) (au (decide ((wrap .u64 (q-1):Int)<1000000000)) (LL SS bC [1,1,1,1,1,1,0,1,0,0] (dw a n c b m d (wrap .u64 (q-1)) (wrap .i64 ((m:Int)+1)) 0 0 0) (room h 28) (KK SS bC [1,1,1,1,1,1,0,1,0] [] (EE SS bC Q))) (aI (qP (eO a n c b m d) o) p [(.slice a n c),(.slice b m d),(iA m),(.int .u64 (wrap .u64 (q-1))),(.int .u64 (wrap .u64 (l+e)))] (room h 28))) (aI (qP (eO a n c b m d) o) p [(.slice a n c),(.slice b m d),(iA m),(.int .u64 (wrap .u64 (q-1))),(.int .u64 (wrap .u64 (l+e)))] (room h 28))) (au (decide (((m:Int):Int)>1)) (au (decide ((l:Int)<1000000000)) (iP 177 (.slice b m d) (.int .i64 (wrap .i64 ((m:Int)-2))) λk=>xI .u64 (aj SS.P 150 (room h 28) (.pointer (some k))) λj=>iP 177 (.slice a n c) (.int .i64 (wrap .i64 ((m:Int)-2))) λi=>xI .u64 (aj SS.P 150 (room h 28) (.pointer (some i))) λg=>au (decide ((wrap .u64 (q*j):Int)>wrap .u64 (wrap .u64 (l*1000000000)+g))) (iP 177 (.slice b m d) (.int .i64 (wrap .i64 ((m:Int)-1))) λf=>xI .u64 (aj SS.P 150 (room h 28) (.pointer (some f))) λe=>au (decide ((wrap .u64 (l+e):Int)>=1000000000)) (au (decide ((wrap .u64 (q-1):Int)<1000000000)) (LL SS bC [1,1,1,1,1,1,0,1,0,0] (dw a n c b m d (wrap .u64 (q-1)) (wrap .i64 ((m:Int)+1)) 0 0 0) (room h 28) (KK SS bC [1,1,1,1,1,1,0,1,0] [] (EE SS bC Q))) (aI (qP (eO a n c b m d) o) p [(.slice a n c),(.slice b m d),(iA m),(.int .u64 (wrap .u64 (q-1))),(.int .u64 (wrap .u64 (l+e)))] (room h 28))) (aI (qP (eO a n c b m d) o) p [(.slice a n c),(.slice b m d),(iA m),(.int .u64 (wrap .u64 (q-1))),(.int .u64 (wrap .u64 (l+e)))] (room h 28))) (LL SS bC [1,1,1,1,1,1,0,1,0,0] (dw a n c b m d q (wrap .i64 ((m:Int)+1)) 0 0 0) (room h 28) (KK SS bC [1,1,1,1,1,1,0,1,0] [] (EE SS bC Q)))) (LL SS bC [1,1,1,1,1,1,0,1,0,0] (dw a n c b m d q (wrap .i64 ((m:Int)+1)) 0 0 0) (room h 28) (KK SS bC [1,1,1,1,1,1,0,1,0] [] (EE SS bC Q)))) (LL SS bC [1,1,1,1,1,1,0,1,0,0] (dw a n c b m d q (wrap .i64 ((m:Int)+1)) 0 0 0) (room h 28) (KK SS bC [1,1,1,1,1,1,0,1,0] [] (EE SS bC Q))))) (p:Nat) {q l:Int} {h:ae} (r:o p q l h):LL SS bC [1,1,1,1,0,0,0] (eO a n c b m d q l) h (KK SS bC [1,1,1,1,0,0] [] (EE SS bC Q)):=
 nu (eO a n c b m d) o (λp q l s h r=>ai (step p q l s h r)) p r
theorem uY(a:OA)(n c:Nat)(b:OA)(m d:Nat)(q t:Int)(v:Nat->Nat->Int->Int->ae->Prop)(Q:VH)(step:∀(w:Nat) (i:Nat) (u cy:Int) (y:Nat->Value) (h:ae),v w i u cy h->au (decide (((i:Int):Int)<t)) (au (decide (((i:Int):Int)<(m:Int))) (iP 177 (.slice b m d) (iA i) λs=>xI .u64 (aj SS.P 150 h (.pointer (some s))) λr=>iP 177 (.slice a n c) (iA i) λp=>xI .u64 (aj SS.P 150 h (.pointer (some p))) λo=>xI .u64 (ay SS.P .rem 150 (.int .u64 (wrap .u64 (cy+wrap .u64 (q*r)))) (.int .u64 1000000000)) λl=>xI .u64 (ay SS.P .rem 150 (.int .u64 (wrap .u64 (wrap .u64 (wrap .u64 (o+1000000000)-l)-u))) (.int .u64 1000000000)) λk=>xI .u64 (ay SS.P .quo 150 (.int .u64 (wrap .u64 (wrap .u64 (wrap .u64 (o+1000000000)-l)-u))) (.int .u64 1000000000)) λj=>xI .u64 (ay SS.P .quo 150 (.int .u64 (wrap .u64 (cy+wrap .u64 (q*r)))) (.int .u64 1000000000)) λg=>iP 177 (.slice a n c) (iA i) λf=>xU (ah SS.P 150 (.pointer (some f)) (.int .u64 k) h) h λ_ e=>aI (ZS (dw a n c b m d q t) v) w [(.slice a n c),(.slice b m d),(iA m),(.int .u64 q),(.int .u64 (wrap .u64 (1-j))),(.int .u64 g),(.int .i64 t),(.int .i64 (wrap .i64 ((i:Int)+1)))] e) (iP 177 (.slice a n c) (iA i) λp=>xI .u64 (aj SS.P 150 h (.pointer (some p))) λo=>xI .u64 (ay SS.P .rem 150 (.int .u64 cy) (.int .u64 1000000000)) λl=>xI .u64 (ay SS.P .rem 150 (.int .u64 (wrap .u64 (wrap .u64 (wrap .u64 (o+1000000000)-l)-u))) (.int .u64 1000000000)) λk=>xI .u64 (ay SS.P .quo 150 (.int .u64 (wrap .u64 (wrap .u64 (wrap .u64 (o+1000000000)-l)-u))) (.int .u64 1000000000)) λj=>xI .u64 (ay SS.P .quo 150 (.int .u64 cy) (.int .u64 1000000000)) λg=>iP 177 (.slice a n c) (iA i) λf=>xU (ah SS.P 150 (.pointer (some f)) (.int .u64 k) h) h λ_ e=>aI (ZS (dw a n c b m d q t) v) w [(.slice a n c),(.slice b m d),(iA m),(.int .u64 q),(.int .u64 (wrap .u64 (1-j))),(.int .u64 g),(.int .i64 t),(.int .i64 (wrap .i64 ((i:Int)+1)))] e)) (au (((u:Int)==0)) (Q (.int .u64 q) h) (LL SS bC [1,1,1,1,1,1,1,1,1,0,1,0,0] (gQ a n c b m d q (wrap .i64 ((m:Int)+1)) 0 0) h (KK SS bC [1,1,1,1,1,1,1,1,1,0,1,0] [] (EE SS bC Q)))))(w:Nat){i:Nat}{u cy:Int}{h:ae}(x:v w i u cy h):LL SS bC [1,1,1,1,1,1,0,1,0,0] (dw a n c b m d q t i u cy) h (KK SS bC [1,1,1,1,1,1,0,1,0] [] (EE SS bC Q)):=
 UX (dw a n c b m d q t) v (λw i u cy y h x=>ai (step w i u cy y h x)) w x
theorem uZ(a:OA)(n c:Nat)(b:OA)(m d:Nat)(q r:Int)(s:Nat->Nat->Int->ae->Prop)(Q:VH)(step:∀(t:Nat) (i:Nat) (cy:Int) (v:Nat->Value) (h:ae),s t i cy h->au (decide (((i:Int):Int)<r)) (iP 177 (.slice a n c) (iA i) λp=>xI .u64 (aj SS.P 150 h (.pointer (some p))) λo=>au (decide (((i:Int):Int)<(m:Int))) (iP 177 (.slice b m d) (iA i) λl=>xI .u64 (aj SS.P 150 h (.pointer (some l))) λk=>xI .u64 (ay SS.P .rem 150 (.int .u64 (wrap .u64 (wrap .u64 (o+cy)+k))) (.int .u64 1000000000)) λj=>xI .u64 (ay SS.P .quo 150 (.int .u64 (wrap .u64 (wrap .u64 (o+cy)+k))) (.int .u64 1000000000)) λg=>iP 177 (.slice a n c) (iA i) λf=>xU (ah SS.P 150 (.pointer (some f)) (.int .u64 j) h) h λ_ e=>aI (qP (gQ a n c b m d q r) s) t [(.slice a n c),(.slice b m d),(iA m),(.int .u64 q),(.int .u64 g),(.int .i64 r),(.int .i64 (wrap .i64 ((i:Int)+1)))] e) (xI .u64 (ay SS.P .rem 150 (.int .u64 (wrap .u64 (o+cy))) (.int .u64 1000000000)) λj=>xI .u64 (ay SS.P .quo 150 (.int .u64 (wrap .u64 (o+cy))) (.int .u64 1000000000)) λg=>iP 177 (.slice a n c) (iA i) λf=>xU (ah SS.P 150 (.pointer (some f)) (.int .u64 j) h) h λ_ e=>aI (qP (gQ a n c b m d q r) s) t [(.slice a n c),(.slice b m d),(iA m),(.int .u64 q),(.int .u64 g),(.int .i64 r),(.int .i64 (wrap .i64 ((i:Int)+1)))] e)) (Q (.int .u64 (wrap .u64 (q-1))) h))(t:Nat){i:Nat}{cy:Int}{h:ae}(u:s t i cy h):LL SS bC [1,1,1,1,1,1,1,1,1,0,1,0,0] (gQ a n c b m d q r i cy) h (KK SS bC [1,1,1,1,1,1,1,1,1,0,1,0] [] (EE SS bC Q)):=
 nu (gQ a n c b m d q r) s (λt i cy v h u=>ai (step t i cy v h u)) t u
noncomputable def ct:FD:=cG Tryz.f189 [([1,1,1,1,1,0,0,0],[0,1,6,7,8,9]),([1,1,1,1,1,1,1,0,1,0,0],[0,1,4,6,7,8,9,49,50]),([1,1,1,1,1,1,1,1,1,1,0,1,0,0],[4,5,7,12,74,75])]
abbrev jb(a:OA)(n c:Nat)(b:OA)(m d:Nat)(j:Int)(e:OA)(f h:Nat)(r:OA)(g i:Nat):LV:=[(.slice a n c),(.slice b m d),(iA m),(.int .u64 j),(.slice r g i),(.slice e f h)]
abbrev jc(a:OA)(n c:Nat)(b:OA)(m d:Nat)(p:Int)(g:OA)(q l:Nat)(r:OA)(j o:Nat)(e:OA)(h k:Nat)(f:Int)(i:Nat):LV:=[(.slice a n c),(.slice b m d),(.slice g q l),(iA m),(.int .u64 p),(.slice r j o),(.slice e h k),(.int .i64 f),(iA i)]
abbrev jd(e:Int)(g:OA)(f c:Nat)(r:OA)(b d:Nat)(a:Int)(i:Nat)(left:Int):LV:=[(.slice g f c),(.slice r b d),(.int .u64 e),(.int .u64 left),(.int .i64 a),(iA i)]
theorem Hj(a:OA)(n c:Nat)(b:OA)(m d:Nat)(h:ae)(Q:VH)(w:FW SS 186 [(.slice a n c),(.slice b m d)] h λu v=>yI .i64 u λt=>au (decide ((t:Int)<0)) (Q (.tuple ⟨[nA,(.slice a n c)]⟩) v) (iP 177 (.slice b m d) (.int .i64 (wrap .i64 ((m:Int)-1))) λs=>xI .u64 (aj SS.P 150 v (.pointer (some s))) λr=>xI .u64 (ay SS.P .quo 150 (.int .u64 1000000000) (.int .u64 (wrap .u64 (r+1)))) λq=>FW SS 202 [(.slice a n c),(.int .u64 q)] v λo p=>yL o λj k l=>FW SS 202 [(.slice b m d),(.int .u64 q)] p λh i=>yL h λe f g=>LL SS ct [1,1,1,1,1,0,0,0] (jb a n c b m d q e f g j k l) i (KK SS ct [1,1,1,1,1,0,0] [] (EE SS ct Q)))):FW SS 189 [(.slice a n c),(.slice b m d)] h Q:=cQ ct Tryz.func189 (ai w)
theorem tC(a:OA)(n c:Nat)(b:OA)(m d:Nat)(v:Int)(e:OA)(t u:Nat)(s:Nat->OA->Nat->Nat->ae->Prop)(Q:VH)(step:∀(q:Nat) (r:OA) (o p:Nat) (x:Nat->Value) (h:ae),s q r o p h->au (decide (((o:Int):Int)<=(n:Int))) (xR (aF SS.P 177 1 [(0,(.int .u64 0))]) h λ_ j k l=>xE (bI SS.P 177 177 (.slice r o p) (sA (h.next) j k) l) l λf g h _ i=>aI (ZS (jb a n c b m d v e t u) s) q [(.slice a n c),(.slice b m d),(iA m),(.int .u64 v),(.slice f g h),(.slice e t u)] i) (xR (ch SS.P 177 (.int .i64 (wrap .i64 ((o:Int)-(m:Int)))) (.int .i64 (wrap .i64 ((o:Int)-(m:Int))))) h λ_ f g i=>LL SS ct [1,1,1,1,1,1,1,0,1,0,0] (jc a n c b m d v (some ⟨h.next,0,none⟩) f g r o p e t u (f:Int) 0) i (KK SS ct [1,1,1,1,1,1,1,0,1,0] [] (EE SS ct Q))))(q:Nat){r:OA}{o p:Nat}{h:ae}(w:s q r o p h):LL SS ct [1,1,1,1,1,0,0,0] (jb a n c b m d v e t u r o p) h (KK SS ct [1,1,1,1,1,0,0] [] (EE SS ct Q)):=
 UX (jb a n c b m d v e t u) s (λq r o p x h w=>ai (step q r o p x h w)) q w
theorem tD(a:OA)(n c:Nat)(b:OA)(m d:Nat)(B:Int)(g:OA)(s x:Nat)(r:OA)(w y:Nat)(e:OA)(z A:Nat)(t:Int)(v:Nat->Nat->ae->Prop)(Q:VH)(step:∀(u:Nat) (i:Nat) (D:Nat->Value) (h:ae),v u i h->au (decide (((i:Int):Int)<t)) (xL (bG SS.P 177 (.slice r w y) (some (.int .i64 (wrap .i64 (wrap .i64 ((s:Int)-1)-(i:Int))))) (some (.int .i64 (wrap .i64 (wrap .i64 (wrap .i64 (wrap .i64 ((s:Int)-1)-(i:Int))+(m:Int))+1)))) none h) λo p q=>FW SS 203 [(.slice o p q),(.slice e z A)] h λk l=>yI .u64 k λj=>xP (aA SS.P 177 (.slice g s x) (.int .i64 (wrap .i64 (wrap .i64 ((s:Int)-1)-(i:Int))))) λh=>xU (ah SS.P 150 (.pointer (some h)) (.int .u64 j) l) l λ_ f=>aI (fj (jc a n c b m d B g s x r w y e z A t) v) u [(.slice a n c),(.slice b m d),(.slice g s x),(iA m),(.int .u64 B),(.slice r w y),(.slice e z A),(.int .i64 t),(.int .i64 (wrap .i64 ((i:Int)+1)))] f) (FW SS 174 [(.slice r w y)] h λd e=>yL d λa b c=>LL SS ct [1,1,1,1,1,1,1,1,1,1,0,1,0,0] (jd B g s x a b c (b:Int) 0 0) e (KK SS ct [1,1,1,1,1,1,1,1,1,1,0,1,0] [] (EE SS ct Q))))(u:Nat){i:Nat}{h:ae}(C:v u i h):LL SS ct [1,1,1,1,1,1,1,0,1,0,0] (jc a n c b m d B g s x r w y e z A t i) h (KK SS ct [1,1,1,1,1,1,1,0,1,0] [] (EE SS ct Q)):=
 dg (jc a n c b m d B g s x r w y e z A t) v (λu i D h C=>ai (step u i D h C)) u C
theorem tE(a:OA)(n c:Nat)(b:OA)(m d:Nat)(s:Int)(g:OA)(u t:Nat)(r:OA)(k p:Nat)(l:Int)(q:Nat->Nat->Int->ae->Prop)(Q:VH)(step:∀(o:Nat) (i:Nat) (left:Int) (w:Nat->Value) (h:ae),q o i left h->au (decide (((i:Int):Int)<l)) (xP (aA SS.P 177 (.slice r k p) (.int .i64 (wrap .i64 (wrap .i64 ((k:Int)-1)-(i:Int))))) λf=>xI .u64 (aj SS.P 150 h (.pointer (some f))) λe=>xI .u64 (ay SS.P .quo 150 (.int .u64 (wrap .u64 (wrap .u64 (left*1000000000)+e))) (.int .u64 s)) λd=>xI .u64 (ay SS.P .rem 150 (.int .u64 (wrap .u64 (wrap .u64 (left*1000000000)+e))) (.int .u64 s)) λc=>xP (aA SS.P 177 (.slice r k p) (.int .i64 (wrap .i64 (wrap .i64 ((k:Int)-1)-(i:Int))))) λb=>xU (ah SS.P 150 (.pointer (some b)) (.int .u64 d) (room h 11)) (room h 11) λ_ a=>aI (qP (jd s g u t r k p l) q) o [(.slice g u t),(.slice r k p),(.int .u64 s),(.int .u64 c),(.int .i64 l),(.int .i64 (wrap .i64 ((i:Int)+1)))] a) (FW SS 174 [(.slice g u t)] h λi j=>yL i λf g h=>FW SS 174 [(.slice r k p)] j λd e=>yL d λa b c=>Q (.tuple ⟨[(.slice f g h),(.slice a b c)]⟩) e))(o:Nat){i:Nat}{left:Int}{h:ae}(v:q o i left h):LL SS ct [1,1,1,1,1,1,1,1,1,1,0,1,0,0] (jd s g u t r k p l i left) h (KK SS ct [1,1,1,1,1,1,1,1,1,1,0,1,0] [] (EE SS ct Q)):=
 nu (jd s g u t r k p l) q (λo i left w h v=>ai (step o i left w h v)) o v
section
def cO(cs:List Value)(off:Nat)(W:List Nat):List Value:=cs.take off++W.map uv++cs.drop (off+W.length)
structure IB(h:ae)(k:Nat)(h':ae):Prop where
 wf:Wf h'
 kF:∀j B,j≠k->h.get j=some B->h'.get j=some B
 nx:h.next<=h'.next
theorem IB.refl{k:Nat}(w:Wf h):IB h k h:=⟨w,λ_ _ _ h=>h,Nat.le_refl _⟩
theorem IB.room{h a:ae}{k:Nat}(o:IB h k a)(n:Nat):IB h k (room a n):=⟨λj B b=>Nat.lt_of_lt_of_le (o.wf j B b) (Nat.le_add_right _ _),o.kF,Nat.le_trans o.nx (Nat.le_add_right _ _)⟩
theorem IB.set{c:ae}{k:Nat}(o:IB h k c)(d:k<c.next)(B:dS):IB h k (c.set k B):=by
 refine⟨λj C a=>?_,λj C b a=>?_,o.nx⟩
 ·rw[ae.aw]at a;split at a
  ·next e=>rw[e];exact d
  ·exact o.wf _ _ a
 ·rw[ae.aw,if_neg b];exact o.kF _ _ b a
theorem xp{k off c:Nat}{i:Int}(b:0<=i)(a:i<n):aA SS.P 177 (.slice (some ⟨k,off,none⟩) n c) (.int .i64 i)=some (.pointer (some ⟨k,off+i.toNat,none⟩)):=by
 unfold aA;rw[AX];dsimp only;rw[Ea];dsimp only;rw[if_pos ⟨b,a⟩,Nat.mul_one,dy]
section
variable {g:ae} {k off:Nat} {cs:List Value} {W:List Nat}
theorem C0(b:g.get k=some (.cells (cO cs off W) 150 1 true))(c:off+W.length<=cs.length){i:Nat}(a:i<W.length):aj SS.P 150 g (.pointer (some ⟨k,off+i,none⟩))=some (.int .u64 (W.getD i 0:Nat)):=by
 unfold aj;rw[Oi];dsimp only;rw[b];dsimp only;rw[Nq];simp only[Bool.false_eq_true,if_false];unfold cO;rw[append_assoc,List.getElem?_append_right (by rw[length_take];omega),length_take,Nat.min_eq_left (by omega),Nat.add_sub_cancel_left,List.getElem?_append_left (by rw[lM];exact a),getElem?_map,gE a,gD,gE a];rfl
theorem DC(h:g.get k=some (.cells (cO cs off W) 150 1 true))(j:off+W.length<=cs.length){i:Nat}(b:i<W.length)(d:Nat):ah SS.P 150 (.pointer (some ⟨k,off+i,none⟩)) (.int .u64 (d:Int)) g=some (undef,.set k (.cells (cO cs off (W.set i d)) 150 1 true)):=by
 show(if aE SS.P 150=some 1 then(storeAt g k (off+i) [.int .u64 (d:Int)]).map λu=>(undef,u)else none)=_;rw[if_pos Ea];unfold storeAt;rw[h];dsimp only;have a:(cO cs off W).length=cs.length:=by
  unfold cO;simp only[List.length_append,length_take,lM,length_drop];omega
 rw[if_pos ⟨by rw[a];simp;omega,rfl⟩];have e:(cO cs off W).take (off+i)++[Value.int .u64 (d:Int)]++(cO cs off W).drop (off+i+[Value.int .u64 (d:Int)].length)=cO cs off (W.set i d):=by
  have f:(cs.take off).length=off:=by rw[length_take];omega
  have c:(cO cs off W).take (off+i)++[Value.int .u64 (d:Int)]++(cO cs off W).drop (off+i+[Value.int .u64 (d:Int)].length)=(cO cs off W).set (off+i) (.int .u64 (d:Int)):=by
   rw[List.set_eq_take_append_cons_drop,if_pos (by rw[a];omega),append_assoc];rfl
  rw[c];unfold cO;rw[append_assoc,List.set_append,if_neg (by omega),f,Nat.add_sub_cancel_left,List.set_append,if_pos (by rw[lM];exact b),length_set,append_assoc,map_set];rfl
 rw[e];rfl
end
end
end Go.Proofs.YtaaichlgdgjgjaaGreatDoor
end
