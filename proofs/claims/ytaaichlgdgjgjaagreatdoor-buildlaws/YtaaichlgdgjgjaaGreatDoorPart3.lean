/- Laws and walks that the proof leans on (part 3): NumWeight; NumGraph; NumRatV; NumStar; NumSemi; NumSem and others. No condition. -/
import Derived.Test.YtaaichlgdgjgjaaGreatDoorPart2
import Derived.Test.YtaaichlgdgjgjaaGreatDoorProg
set_option linter.unusedVariables false
set_option linter.unusedSimpArgs false
set_option maxRecDepth 100000
open List (all_eq_true drop_zero getElem_mem length_replicate length_set length_take map_append map_set mem_cons_self mem_singleton take_of_length_le take_zero)
open Nat (lt_irrefl lt_or_ge mod_lt mul_pos ne_of_gt)
open Option (getD_some)
open Go.IntKind (wrap)
section
namespace Go.Num
theorem Lf:aA [105,110,102]=false:=by rfl
theorem zj:aA [45,105,110,102]=false:=by rfl
theorem gx:aA [48]=true:=by decide
theorem Hd{a:List UInt8}(h:aA a=true):de a [48]=0↔a=[48]:=by
 constructor
 ·intro e;unfold de at e;rw[if_pos ⟨h,gx⟩]at e;have r:=ba.1 h;have f:val (ak [48])=1:=by decide
  have i:val (numOf [48])=0:=by decide
  rw[f,i,Nat.mul_one,Nat.zero_mul,show isNeg [48]=false from rfl,Bool.not_false]at e;have d:val (numOf a)=0:=by
   unfold dC at e;by_cases b:isNeg a=true
   ·rw[if_pos b]at e;dsimp only at e;rw[Nat.add_zero]at e;by_cases c:val (numOf a)=0
    ·exact c
    ·rw[if_neg c,if_pos b]at e;exact absurd e (by decide)
   ·rw[if_neg b,if_neg (Nat.not_lt_zero _)]at e;dsimp only at e;rw[Nat.sub_zero]at e;by_cases c:val (numOf a)=0
    ·exact c
    ·rw[if_neg c,if_neg b]at e;exact absurd e (by decide)
  have b:=(jt r.num).2 d;have k:isNeg a=false:=by
   cases g:isNeg a with
   |false=>rfl
   |true=>exact absurd ⟨g,b⟩ r.neg
  have j:ak a=[49]:=by
   refine(wD r.den).2 ?_;have:=r.one;rw[d,Nat.gcd_zero_left]at this;exact this
  have l:bE a=false:=by
   cases g:bE a with
   |false=>rfl
   |true=>exact absurd ⟨g,.inr j⟩ r.fr
  grind[take_of_length_le,bw,numOf,bE]
 ·rintro rfl;decide
def bq(b:Int)(a:List UInt8):Bool:=decide (1<=b/\b<=3)&&aA a&&(b==1||decide (0<de a [48]))
variable{n:Nat}{m:Nat}
def fK(s:Bool)(n:Nat):Int:=if s=true then -(n:Int)else n
def br(a:List UInt8):Rat:=mkRat (fK (isNeg a) (val (numOf a))) (val (ak a))
def dh(s:Bool)(n d:Nat):List UInt8:=(if s=true/\n≠0 then[45]else[])++(ag n++(if d=1 then[]else 47::ag d))
theorem Js(n:Nat):∃c r,ag n=c::r/\ca c=true:=by
 have h:=dv n
 cases e:ag n with
 |nil=>grind[tR]
 |cons c r=>grind
theorem EV{c:UInt8}(r:List UInt8):∀{l:List UInt8},(∀x∈l,x≠c)->dg c (l++r)=l.length+dg c r
 |[],_=>by simp
 |x::l,h=>by
  show(if x=c then 0 else dg c (l++r)+1)=_;rw[if_neg (h x (mem_cons_self ..)),EV r λy a=>h y (List.mem_cons_of_mem _ a),List.length_cons];omega
theorem UC{c:UInt8}(b:ca c=false):∀x∈ag n,x≠c:=λx a e=>by grind[dv]
structure EF(a:List UInt8)(s:Bool)(n d:Nat):Prop where
 neg:isNeg a=s
 num:numOf a=ag n
 den:ak a=ag d
 str:bE a=decide (d≠1)
theorem K6(s:Bool)(n d:Nat):isNeg (dh s n d)=decide (s=true/\n≠0)/\bw (dh s n d)=ag n++(if d=1 then[]else 47::ag d):=by
 have b:isNeg (dh s n d)=decide (s=true/\n≠0):=by
  unfold dh isNeg;by_cases c:s=true/\n≠0
  ·rw[if_pos c,decide_eq_true c];rfl
  ·rw[if_neg c,decide_eq_false c];obtain⟨x,r,e,a⟩:=Js n;rw[e];show(some x==some 45)=false;have:x≠45:=λe=>by rw[e]at a;exact absurd a (by decide)
   simpa using this
 refine⟨b,?_⟩;unfold bw;rw[b];unfold dh
 grind
theorem AJ(s:Bool)(n d:Nat):EF (dh s n d) (decide (s=true/\n≠0)) n d:=by
 obtain⟨b,e⟩:=K6 s n d;have f:dg 47 (ag n++(if d=1 then[]else 47::ag d))=(ag n).length:=by
  rw[EV _ (UC (by decide))];split
  ·rfl
  ·rfl
 have a:bE (dh s n d)=decide (d≠1):=by
  unfold bE;rw[e,f];by_cases c:d=1
  ·grind
  ·grind
 refine⟨b,?_,?_,a⟩
 ·simp_all[numOf]
 ·unfold ak;rw[a];by_cases c:d=1
  all_goals simp_all[Dm]
theorem tN(s:Bool):fK s 0=0:=by grind[fK]
theorem Rv(s:Bool)(n:Nat):fK (decide (s=true/\n≠0)) n=fK s n:=by
 by_cases c:n=0
 ·subst c;rw[tN,tN]
 simp_all
theorem ye(s:Bool)(n:Nat):(fK s n).natAbs=n:=by grind[fK]
theorem EF.val{a:List UInt8}{s:Bool}(p:EF a s n m):br a=mkRat (fK s n) m:=by
 unfold br;rw[p.neg,p.num,p.den,bI,bI]
theorem EY(s:Bool)(n d:Nat):br (dh s n d)=mkRat (fK s n) d:=by rw[(AJ s n d).val,Rv]
theorem Dh{s:Bool}(c:(ag n).length<=400)(e:(ag m).length<=400)(d:0<m)(f:Nat.gcd n m=1):aA (dh s n m)=true:=by
 have p:=AJ s n m;have b:∀a,(ag a).length<=400->valid (ag a)=true:=λa h=>ie.2 ⟨zi a,by omega⟩;refine ba.2 ⟨?_,?_,?_,?_,?_,?_,?_⟩
 ·rw[p.num];grind
 ·rw[p.den];grind
 ·rw[p.num];omega
 ·rw[p.den];omega
 ·rw[p.neg,p.num,bU]
  grind
 ·rw[p.str,p.den,bU,eN]
  grind
 ·rw[p.num,p.den,bI,bI];omega
theorem iJ.den_pos{a:List UInt8}(r:iJ a):0<val (ak a):=by
 refine Nat.pos_of_ne_zero λe=>?_;have h:=(jt r.den).2 e
 cases b:bE a with
 |true=>exact r.fr ⟨b,.inl h⟩
 |false=>grind[ak]
theorem iJ.txt{a:List UInt8}(r:iJ a):a=dh (isNeg a) (val (numOf a)) (val (ak a)):=by
 obtain⟨n,o,_,k⟩:=di r.num;obtain⟨d,q,_,f⟩:=di r.den;have s:(if isNeg a=true/\val (numOf a)≠0 then[45]else([]:List UInt8))=if isNeg a=true then[45]else[]:=by
  by_cases c:isNeg a=true
  ·rw[if_pos c,if_pos ⟨c,λe=>r.neg ⟨c,(jt r.num).2 e⟩⟩]
  ·rw[if_neg c,if_neg λh=>c h.1]
 have u:a=(if isNeg a=true then[45]else[])++bw a:=by
  unfold bw;by_cases c:isNeg a=true
  ·rw[if_pos c,if_pos c];unfold isNeg at c
   cases a with
   |nil=>cases c
   |cons x l=>
    have:x=45:=by simpa using c
    rw[this];rfl
  ·rw[if_neg c,if_neg c];rfl
 have g:bE a=true↔val (ak a)≠1:=by
  constructor
  ·exact λh e=>r.fr ⟨h,.inr ((wD r.den).2 e)⟩
  ·intro h
   cases c:bE a with
   |true=>rfl
   |false=>
    refine absurd ?_ h;unfold ak;rw[c];exact Lr
 have t:bw a=ag (val (numOf a))++(if val (ak a)=1 then[]else 47::ag (val (ak a))):=by
  rw[k,f,<-o,<-q];by_cases c:bE a=true
  ·rw[if_neg (by rw[<-f];exact g.1 c)];have i:ak a=(bw a).drop (dg 47 (bw a)+1):=by unfold ak;rw[if_pos c]
   rw[i];unfold numOf;unfold bE at c;have c:=dT c;have b:∀{l:List UInt8},dg 47 l<l.length->l=l.take (dg 47 l)++47::l.drop (dg 47 l+1):=λ{l}=>by
    induction l with
    |nil=>intro h;simp at h
    | cons x l p=>
     intro h;by_cases e:x=47
     ·have:dg 47 (x::l)=0:=by unfold dg;rw[if_pos e]
      rw[this,e];rfl
     ·have j:dg 47 (x::l)=dg 47 l+1:=by unfold dg;rw[if_neg e];cases l<;>rfl
      rw[j,List.take_succ_cons,List.drop_succ_cons,List.cons_append,<-p (by rw[j]at h;simpa using h)]
   exact b c
  ·have m:val (ak a)=1:=Classical.byContradiction λh=>c (g.2 h);rw[if_pos (by rw[<-f];exact m),List.append_nil];unfold numOf;unfold bE at c;rw[take_of_length_le (by simp at c;exact c)]
 grind[dh]
theorem iJ.Ah{a:List UInt8}(r:iJ a):(br a).num=fK (isNeg a) (val (numOf a)):=by
 unfold br;rw[Rat.num_mkRat,if_neg (ne_of_gt r.den_pos),ye,Nat.gcd_comm,r.one];simp
theorem iJ.JF{a:List UInt8}(r:iJ a):(br a).den=val (ak a):=by
 unfold br;rw[Rat.den_mkRat,if_neg (ne_of_gt r.den_pos),ye,Nat.gcd_comm,r.one];simp
theorem zQ{a b:List UInt8}(m:aA a=true)(i:aA b=true)(e:br a=br b):a=b:=by
 have f:=ba.1 m;have d:=ba.1 i;have g:=f.Ah;have h:=f.JF;rw[e,d.Ah]at g;rw[e,d.JF]at h;have l:val (numOf a)=val (numOf b):=by
  have:=congrArg Int.natAbs g;rw[ye,ye]at this;exact this.symm
 rw[f.txt,d.txt,<-h,<-l];congr 1;by_cases n:val (numOf a)=0
 ·have j:isNeg a=false:=by
   cases c:isNeg a with
   |false=>rfl
   |true=>exact absurd ⟨c,(jt f.num).2 n⟩ f.neg
  have k:isNeg b=false:=by
   cases c:isNeg b with
   |false=>rfl
   |true=>exact absurd ⟨c,(jt d.num).2 (by omega)⟩ d.neg
  rw[j,k]
 grind[fK]
theorem E2(s:Bool)(A:Nat)(t:Bool)(B:Nat):fK (dC s A t B).1 (dC s A t B).2=fK s A+fK t B:=by
 unfold dC fK
 grind
theorem HZ(s:Bool)(n:Nat):fK (!s) n = - fK s n:=by grind[fK]
theorem UH{s:Bool}:fK s n<0↔s=true/\n≠0:=by grind[fK]
theorem Lk{s:Bool}:fK s n=0↔n=0:=by grind[fK]
theorem HY(s t:Bool)(m n:Nat):fK (s !=t) (m*n)=fK s m*fK t n:=by unfold fK;grind
theorem oP(s:Bool)(m n:Nat):fK s (m*n)=fK s m*n:=by grind[fK]
theorem rZ{a b:List UInt8}(f:aA a=true)(c:aA b=true):(de a b<0↔br a<br b)/\(de a b=0↔br a=br b):=by
 have e:=ba.1 f;have d:=ba.1 c;unfold de;rw[if_pos ⟨f,c⟩];have h:=E2 (isNeg a) (val (numOf a)*val (ak b)) (!isNeg b) (val (numOf b)*val (ak a));generalize dC (isNeg a) (val (numOf a)*val (ak b)) (!isNeg b) (val (numOf b)*val (ak a))=z at*;rw[HZ,oP,oP,<-e.Ah,<-d.Ah,<-e.JF,<-d.JF]at h;rw[Rat.lt_iff,Rat.eq_iff_mul_eq_mul];have g:=UH (s:=z.1) (n:=z.2);have i:=Lk (s:=z.1) (n:=z.2)
 grind
def lY(s:Bool)(n d:Nat):Option (List UInt8):=if 400<(ag (n/Nat.gcd n d)).length\/400<(ag (d/Nat.gcd n d)).length then none else some (dh s (n/Nat.gcd n d) (d/Nat.gcd n d))
def qT(a b:List UInt8):Option (List UInt8):=lY (dC (isNeg a) (val (numOf a)*val (ak b)) (isNeg b) (val (numOf b)*val (ak a))).1 (dC (isNeg a) (val (numOf a)*val (ak b)) (isNeg b) (val (numOf b)*val (ak a))).2 (val (ak a)*val (ak b))
def B3(a b:List UInt8):Option (List UInt8):=lY (isNeg a !=isNeg b) (val (numOf a)*val (numOf b)) (val (ak a)*val (ak b))
def Jo(a b:List UInt8):Option (List UInt8):=lY (isNeg a !=isNeg b) (val (numOf a)*val (ak b)) (val (ak a)*val (numOf b))
def sM(a:List UInt8):List UInt8:=dh (!isNeg a) (val (numOf a)) (val (ak a))
theorem wm{s:Bool}{c:List UInt8}(b:0<m)(h:lY s n m=some c):aA c=true/\br c=mkRat (fK s n) m:=by
 unfold lY at h;split at h
 ·cases h
 ·next g=>
  obtain rfl:=oI h;have e:0<Nat.gcd n m:=Nat.gcd_pos_of_pos_right n b;have f:=Nat.gcd_dvd_left n m;have d:=Nat.gcd_dvd_right n m;have a:0<m/Nat.gcd n m:=Nat.div_pos (Nat.le_of_dvd b d) e;refine⟨Dh (by omega) (by omega) a ?_,?_⟩
  ·grind[Nat.gcd_div,Nat.div_self]
  ·rw[EY,Rat.mkRat_eq_iff (ne_of_gt a) (ne_of_gt b),<-oP,<-oP]
   grind[Nat.div_mul_cancel,Nat.mul_assoc]
theorem Oe{s:Bool}(a:(ag n).length<=400)(b:(ag m).length<=400)(c:Nat.gcd n m=1):lY s n m=some (dh s n m):=by simp_all[lY]
theorem pK{a b c:List UInt8}(j:aA a=true)(f:aA b=true)(h:qT a b=some c):aA c=true/\br c=br a+br b:=by
 have e:=ba.1 j;have d:=ba.1 f;obtain⟨g,i⟩:=wm (mul_pos e.den_pos d.den_pos) h;refine⟨g,?_⟩;rw[i,E2,oP,oP];unfold br;rw[Rat.mkRat_add_mkRat _ _ (ne_of_gt e.den_pos) (ne_of_gt d.den_pos)]
theorem Di{a b c:List UInt8}(g:aA a=true)(d:aA b=true)(h:B3 a b=some c):aA c=true/\br c=br a*br b:=by
 have f:=ba.1 g;have e:=ba.1 d;obtain⟨i,j⟩:=wm (mul_pos f.den_pos e.den_pos) h
 grind[HY,Rat.mkRat_mul_mkRat,br]
theorem La{a b c:List UInt8}(l:aA a=true)(i:aA b=true)(f:val (numOf b)≠0)(h:Jo a b=some c):aA c=true/\br c=br a*(br b)⁻¹:=by
 have d:=ba.1 l;have g:=ba.1 i;obtain⟨j,k⟩:=wm (mul_pos d.den_pos (Nat.pos_of_ne_zero f)) h;refine⟨j,?_⟩;have m:br c*br b=br a:=by
  rw[k,HY];unfold br;rw[Rat.mkRat_mul_mkRat,Rat.mkRat_eq_iff (ne_of_gt (mul_pos (mul_pos d.den_pos (Nat.pos_of_ne_zero f)) g.den_pos)) (ne_of_gt d.den_pos)];have e:∀(s t:Bool)(A B C D:Nat),fK s A*fK t B*fK t C*(D:Int)=fK s A*((D*C*B:Nat):Int):=λs t A B C D=>by
   unfold fK
   cases s<;>cases t<;>simp<;>grind
  exact e _ _ _ _ _ _
 have n:br b≠0:=λe=>f (by
  have:=g.Ah;rw[e]at this;exact Lk.1 this.symm)
 grind
theorem yb{a:List UInt8}(g:aA a=true):aA (sM a)=true/\br (sM a) = - br a:=by
 have b:=ba.1 g;obtain⟨n,e,_,c⟩:=di b.num;obtain⟨d,f,_,h⟩:=di b.den;unfold sM;refine⟨Dh ?_ ?_ b.den_pos b.one,?_⟩
 ·rw[c,<-e];exact b.ln
 ·rw[h,<-f];exact b.ld
 grind[EY,HZ,Rat.neg_mkRat,br]
section
structure aW(K:Type) where
 zero:K
 one:K
 add:K->K->K
 mul:K->K->K
 star:K->K
 le:K->K->Prop
 add_assoc:∀a b c,add (add a b) c=add a (add b c)
 add_comm:∀a b,add a b=add b a
 zero_add:∀a,add zero a=a
 mul_assoc:∀a b c,mul (mul a b) c=mul a (mul b c)
 mul_comm:∀a b,mul a b=mul b a
 one_mul:∀a,mul one a=a
 zero_mul:∀a,mul zero a=zero
 mul_add:∀a b c,mul a (add b c)=add (mul a b) (mul a c)
 le_refl:∀a,le a a
 le_trans:∀{a b c},le a b->le b c->le a c
 Eo:∀{a b},le a b->le b a->a=b
 zero_le:∀a,le zero a
 zW:∀{a b c d},le a b->le c d->le (add a c) (add b d)
 J1:∀{a b}(c),le a b->le (mul c a) (mul c b)
 BF:∀a,add one (mul a (star a))=star a
 vr:∀{a b x},le (add b (mul a x)) x->le (mul (star a) b) x
namespace aW
def cq{K:Type}(S:aW K)(f:Nat->K):Nat->K
 |0=>S.zero
 |n+1=>S.add (cq S f n) (f n)
variable {K:Type} {S:aW K}
theorem add_zero(a:K):S.add a S.zero=a:=by rw[S.add_comm,S.zero_add]
theorem mul_zero(a:K):S.mul a S.zero=S.zero:=by rw[S.mul_comm,S.zero_mul]
theorem mul_one(a:K):S.mul a S.one=a:=by rw[S.mul_comm,S.one_mul]
theorem add_mul(a b c:K):S.mul (S.add a b) c=S.add (S.mul a c) (S.mul b c):=by rw[S.mul_comm,S.mul_add,S.mul_comm c a,S.mul_comm c b]
theorem Hm(a b c:K):S.add a (S.add b c)=S.add b (S.add a c):=by rw[<-S.add_assoc,S.add_comm a b,S.add_assoc]
theorem ac3(a b c d:K):S.add (S.add a b) (S.add c d)=S.add (S.add a c) (S.add b d):=by rw[S.add_assoc,S.add_assoc,Hm b c d]
theorem aw{f g:Nat->K}:∀{n:Nat},(∀i,i<n->f i=g i)->S.cq f n=S.cq g n
 |0,_=>rfl
 |n+1,h=>by
  show S.add _ _=S.add _ _;rw[aw λi a=>h i (Nat.lt_succ_of_lt a),h n (Nat.lt_succ_self n)]
theorem ir(f g:Nat->K):∀n,S.cq (λi=>S.add (f i) (g i)) n=S.add (S.cq f n) (S.cq g n)
 |0=>(S.zero_add _).symm
 |n+1=>by
  show S.add (S.cq _ n) _=S.add (S.add _ _) (S.add _ _);rw[ir f g n,ac3]
theorem sE(c:K)(f:Nat->K):∀n,S.cq (λi=>S.mul c (f i)) n=S.mul c (S.cq f n)
 |0=>(mul_zero c).symm
 |n+1=>by
  show S.add (S.cq _ n) _=S.mul c (S.add _ _);rw[sE c f n,S.mul_add]
theorem yJ(c:K)(f:Nat->K)(n:Nat):S.cq (λi=>S.mul (f i) c) n=S.mul (S.cq f n) c:=by
 rw[S.mul_comm,<-sE];exact aw λi _=>S.mul_comm _ _
theorem dH:∀n,S.cq (λ_=>S.zero) n=S.zero
 |0=>rfl
 |n+1=>by
  show S.add (S.cq _ n) _=_;rw[dH n,S.zero_add]
theorem BI(f:Nat->Nat->K)(m:Nat):∀n,S.cq (λi=>S.cq (f i) m) n=S.cq (λj=>S.cq (λi=>f i j) n) m
 |0=>(dH m).symm
 |n+1=>by
  show S.add (S.cq _ n) _=_;rw[BI f m n,<-ir];rfl
theorem YG{f g:Nat->K}:∀{n:Nat},(∀i,i<n->S.le (f i) (g i))->S.le (S.cq f n) (S.cq g n)
 |0,_=>S.le_refl _
 |n+1,h=>S.zW (YG λi a=>h i (Nat.lt_succ_of_lt a)) (h n (Nat.lt_succ_self n))
theorem le_of_eq{a b:K}(h:a=b):S.le a b:=h▸S.le_refl a
def elim{K:Type}(S:aW K)(a:Nat->Nat->K):Nat->Nat->Nat->K
 |0=>a
 |k+1=>λi j=>S.add (elim S a k i j) (S.mul (S.mul (elim S a k i k) (S.star (elim S a k k k))) (elim S a k k j))
theorem YA(a b:K):S.add b (S.mul (S.mul b (S.star a)) a)=S.mul b (S.star a):=by
 have h:S.mul b (S.add S.one (S.mul a (S.star a)))=S.mul b (S.star a):=by rw[S.BF]
 rw[S.mul_add,mul_one]at h;rw[S.mul_assoc,S.mul_comm (S.star a) a];exact h
theorem QE(a:Nat->Nat->K):∀(k i j:Nat),elim S a k i j=S.add (a i j) (S.cq (λl=>S.mul (a i l) (elim S a k l j)) k)
 |0,i,j=>(add_zero _).symm
 | k+1,i,j=>by
  have b:=QE a k;show S.add (elim S a k i j) _=S.add (a i j) (S.add (S.cq _ k) (S.mul (a i k) (elim S a (k+1) k j)));have d:S.cq (λl=>S.mul (a i l) (elim S a (k+1) l j)) k=S.add (S.cq (λl=>S.mul (a i l) (elim S a k l j)) k) (S.mul (S.cq (λl=>S.mul (a i l) (elim S a k l k)) k) (S.mul (S.star (elim S a k k k)) (elim S a k k j))):=by
   rw[<-yJ,<-ir];refine aw λl _=>?_;show S.mul (a i l) (S.add _ _)=_;rw[S.mul_add,S.mul_assoc,S.mul_assoc]
  have e:elim S a (k+1) k j=S.mul (S.star (elim S a k k k)) (elim S a k k j):=by
   show S.add (elim S a k k j) _=_;rw[S.mul_comm (elim S a k k k) _,S.mul_assoc];have h:=S.BF (elim S a k k k);have c:S.mul (S.add S.one (S.mul (elim S a k k k) (S.star (elim S a k k k)))) (elim S a k k j)=S.mul (S.star (elim S a k k k)) (elim S a k k j):=by rw[h]
   rw[add_mul,S.one_mul,S.mul_comm (elim S a k k k),S.mul_assoc]at c;exact c
  rw[d,e,S.add_assoc,<-S.add_assoc (a i j),<-b i j];congr 1;rw[<-add_mul,S.add_comm (S.cq _ _) (a i k),<-b i k,S.mul_assoc]
def qN(S:aW K)(a:Nat->Nat->K)(n:Nat)(c:Nat->K)(i:Nat):K:=S.add (c i) (S.cq (λj=>S.mul (elim S a n i j) (c j)) n)
theorem xH(a:Nat->Nat->K)(n:Nat)(c:Nat->K)(i:Nat):qN S a n c i=S.add (c i) (S.cq (λl=>S.mul (a i l) (qN S a n c l)) n):=by
 unfold qN;congr 1;have b:S.cq (λj=>S.mul (elim S a n i j) (c j)) n=S.add (S.cq (λj=>S.mul (a i j) (c j)) n) (S.cq (λj=>S.cq (λl=>S.mul (a i l) (S.mul (elim S a n l j) (c j))) n) n):=by
  rw[<-ir];refine aw λj _=>?_;rw[QE a n i j,add_mul,<-yJ];congr 1;exact aw λl _=>S.mul_assoc _ _ _
 rw[b,BI,<-ir];refine aw λl _=>?_;rw[S.mul_add,sE]
theorem qO{f:Nat->K}(k:Nat):∀{n:Nat},k<=n->S.cq f n=S.add (S.cq f k) (S.cq (λi=>f (k+i)) (n-k))
 |0,h=>by
  obtain rfl:k=0:=by omega
  exact(S.zero_add _).symm
 | n+1,h=>by
  by_cases e:k=n+1
  ·subst e;rw[Nat.sub_self];exact(add_zero _).symm
  ·have a:k<=n:=by omega
   rw[show n+1-k=(n-k)+1 by omega];show S.add (S.cq f n) (f n)=S.add _ (S.add _ (f (k+(n-k))));rw[qO k a,S.add_assoc,show k+(n-k)=n by omega]
theorem QF(a:Nat->Nat->K){n:Nat}{c x:Nat->K}(o:∀i,i<n->S.le (S.add (c i) (S.cq (λj=>S.mul (a i j) (x j)) n)) (x i)):∀(k:Nat),k<=n->∀i,i<n->S.le (S.add (c i) (S.cq (λj=>S.mul (elim S a k i j) (if j<k then c j else x j)) n)) (x i)
 |0,_,i,l=>by
  have h:=o i l;exact h
 | k+1,y,i,l=>by
  have d:=QF a o k (by omega);have p:k<n:=by omega
  have b:∀(g:Nat->K),S.cq g n=S.add (g k) (S.cq (λj=>if j=k then S.zero else g j) n):=λg=>by
   have w:∀m,S.cq g m=S.add (if k<m then g k else S.zero) (S.cq (λj=>if j=k then S.zero else g j) m):=λm=>by
    induction m with
    |zero=>rw[if_neg (Nat.not_lt_zero k)];exact(S.zero_add _).symm
    | succ m d=>
     show S.add (S.cq g m) (g m)=S.add _ (S.add (S.cq _ m) (if m=k then S.zero else g m));rw[d];by_cases e:m=k
     ·subst e;rw[if_neg (lt_irrefl m),if_pos (Nat.lt_succ_self m),if_pos rfl,S.zero_add,add_zero,S.add_comm]
     ·by_cases h:k<m
      ·rw[if_pos h,if_pos (by omega),if_neg e,S.add_assoc]
      ·rw[if_neg h,if_neg (by omega),if_neg e,S.add_assoc]
   grind
  let s:=S.star (elim S a k k k)
  let r:=S.add (c k) (S.cq (λj=>if j=k then S.zero else S.mul (elim S a k k j) (if j<k then c j else x j)) n)
  have t:S.le (S.mul s r) (x k):=by
   refine S.vr ?_;have h:=d k p;rw[b]at h;rw[if_neg (lt_irrefl k)]at h;refine S.le_trans (le_of_eq ?_) h;show S.add (S.add (c k) _) _=_;rw[S.add_assoc,S.add_comm (S.cq _ n)]
  have f:=d i l;rw[b]at f;rw[if_neg (lt_irrefl k)]at f;refine S.le_trans (le_of_eq ?_) (S.le_trans (S.zW (S.le_refl (c i)) (S.zW (S.J1 (elim S a k i k) t) (S.le_refl (S.cq (λj=>if j=k then S.zero else S.mul (elim S a k i j) (if j<k then c j else x j)) n)))) f);congr 1;rw[b];rw[if_pos (Nat.lt_succ_self k)];have q:S.mul (elim S a (k+1) i k) (c k)=S.mul (elim S a k i k) (S.mul s (c k)):=by
   show S.mul (S.add _ _) _=_;rw[YA,S.mul_assoc]
  have v:S.mul (elim S a k i k) (S.mul s r)=S.add (S.mul (elim S a k i k) (S.mul s (c k))) (S.cq (λj=>if j=k then S.zero else S.mul (S.mul (S.mul (elim S a k i k) s) (elim S a k k j)) (if j<k then c j else x j)) n):=by
   show S.mul _ (S.mul s (S.add _ _))=_;rw[S.mul_add,S.mul_add];congr 1;rw[<-S.mul_assoc,<-sE];refine aw λj _=>?_;by_cases e:j=k
   ·rw[if_pos e,if_pos e,mul_zero]
   ·rw[if_neg e,if_neg e,S.mul_assoc (S.mul _ s)]
  rw[q,v,S.add_assoc,<-ir];congr 1;refine aw λj _=>?_;by_cases e:j=k
  ·rw[if_pos e,if_pos e,if_pos e,S.zero_add]
  ·rw[if_neg e,if_neg e,if_neg e];have u:(if j<k+1 then c j else x j)=if j<k then c j else x j:=by
    by_cases h:j<k
    ·grind
    ·grind
   rw[u];show S.mul (S.add _ _) _=_;rw[add_mul,S.add_comm]
theorem yE(a:Nat->Nat->K){n:Nat}{c x:Nat->K}(b:∀i,i<n->S.le (S.add (c i) (S.cq (λj=>S.mul (a i j) (x j)) n)) (x i)){i:Nat}(d:i<n):S.le (qN S a n c i) (x i):=by
 refine S.le_trans (le_of_eq ?_) (QF a b n (Nat.le_refl _) i d)
 simp_all[aw,qN]
end aW
end
end Go.Num
end
section
namespace Go.Num
inductive vU where
 |fin (q:Rat)
 |inf
 |low
namespace vU
def add:vU->vU->vU
 |low,_=>low
 |_,low=>low
 |inf,b=>b
 |a,inf=>a
 |fin p,fin q=>fin (if p<=q then p else q)
def mul:vU->vU->vU
 |inf,_=>inf
 |_,inf=>inf
 |low,_=>low
 |_,low=>low
 |fin p,fin q=>fin (p+q)
def star:vU->vU
 |inf=>fin 0
 |low=>low
 |fin p=>if 0<=p then fin 0 else low
def le:vU->vU->Prop
 |inf,_=>True
 |_,low=>True
 |fin p,fin q=>q<=p
 |_,_=>False
def S:aW vU where
 zero:=inf
 one:=fin 0
 add:=add
 mul:=mul
 star:=star
 le:=le
 add_assoc a b c:=by cases a<;>cases b<;>cases c<;>simp only[add]<;>(try rfl)<;>(grind)
 add_comm a b:=by cases a<;>cases b<;>simp only[add]<;>(grind)
 zero_add a:=by cases a<;>rfl
 mul_assoc a b c:=by cases a<;>cases b<;>cases c<;>simp only[mul]<;>(grind)
 mul_comm a b:=by cases a<;>cases b<;>simp only[mul]<;>(grind)
 one_mul a:=by cases a<;>simp only[mul]<;>(grind)
 zero_mul a:=by rfl
 mul_add a b c:=by cases a<;>cases b<;>cases c<;>simp only[mul,add]<;>(grind)
 le_refl a:=by cases a<;>simp only[le]<;>grind
 le_trans {a b c} e f:=by cases a<;>cases b<;>cases c<;>simp only[le]at*<;>grind
 Eo {a b} e f:=by cases a<;>cases b<;>simp only[le]at*<;>grind
 zero_le a:=by cases a<;>trivial
 zW {a b c d} e f:=by cases a<;>cases b<;>cases c<;>cases d<;>simp only[le,add]at*<;>grind
 J1 {a b} c h:=by cases a<;>cases b<;>cases c<;>simp only[le,mul]at*<;>grind
 BF a:=by
  cases a with
  |fin p=>grind[star,mul,add]
  |inf=>rfl
  |low=>rfl
 vr {a b x} h:=by
  cases a with
  |fin p=>
   simp only[star];split<;>cases b<;>cases x<;>simp only[mul,add,le]at*<;>grind
  |inf=>cases b<;>cases x<;>simp only[star,mul,add,le]at*<;>grind
  |low=>cases b<;>cases x<;>simp only[star,mul,add,le]at*<;>grind
end vU
end Go.Num
namespace Go.Num
inductive hJ where
 |fin (q:Rat) (h:0<=q)
 |inf
namespace hJ
theorem ext{p q:Rat}{h:0<=p}{a:0<=q}(e:p=q):fin p h=fin q a:=by grind
def mul:hJ->hJ->hJ
 |fin p b,fin q a=>fin (p*q) (Rat.mul_nonneg b a)
 |fin p b,inf=>if p=0 then fin 0 (by grind)else inf
 |inf,fin q a=>if q=0 then fin 0 (by grind)else inf
 |inf,inf=>inf
def add:hJ->hJ->hJ
 |fin p b,fin q a=>fin (p+q) (by grind)
 |_,_=>inf
def le:hJ->hJ->Prop
 |_,inf=>True
 |fin p _,fin q _=>p<=q
 |inf,fin _ _=>False
theorem inv_pos{p:Rat}(h:p<1):0<=(1-p)⁻¹:=by grind[Rat.inv_pos]
def star:hJ->hJ
 |inf=>inf
 |fin p _=>if h:p<1 then fin (1-p)⁻¹ (inv_pos h)else inf
theorem ahv{p q:Rat}:p*q=0↔p=0\/q=0:=by grind
theorem O0(a b c:hJ):mul (mul a b) c=mul a (mul b c):=by
 cases a with
 | fin p f=>
  cases b with
  |fin q e=>
   cases c with
   |fin r d=>exact ext (Rat.mul_assoc p q r)
   |inf=>grind[mul]
  |inf=>
   cases c with
   |fin r d=>grind[mul]
   |inf=>grind[mul]
 | inf=>
  cases b with
  |fin q e=>
   cases c with
   |fin r d=>grind[mul]
   |inf=>grind[mul]
  |inf=>
   cases c with
   |fin r d=>grind[mul]
   |inf=>rfl
theorem Iw(a b:hJ):mul a b=mul b a:=by
 cases a<;>cases b<;>simp only[mul]
 simp[Rat.mul_comm]
theorem Xb(a:hJ):mul (fin 1 (by grind)) a=a:=by
 cases a with
 |fin p b=>exact ext (Rat.one_mul p)
 |inf=>rfl
theorem Dc(a:hJ):mul (fin 0 (by grind)) a=fin 0 (by grind):=by
 cases a with
 |fin p b=>exact ext (Rat.zero_mul p)
 |inf=>rfl
theorem WT(a b c:hJ):mul a (add b c)=add (mul a b) (mul a c):=by
 cases a with
 |fin p e=>
  cases b<;>cases c<;>simp only[mul,add]
  ·exact ext (Rat.mul_add _ _ _)
  all_goals grind
 | inf=>
  cases b with
  |fin q d=>
   cases c with
   |fin r f=>grind[mul,add]
   |inf=>grind[mul,add]
  |inf=>rfl
theorem QP{a b:hJ}(c:hJ)(h:le a b):le (mul c a) (mul c b):=by
 cases c with
 | fin p i=>
  cases a with
  | fin q g=>
   cases b with
   |fin r d=>exact Rat.mul_le_mul_of_nonneg_left h i
   |inf=>
    simp only[mul];by_cases e:p=0
    all_goals simp_all[le]
  |inf=>
   cases b with
   |fin r d=>exact h.elim
   |inf=>grind[mul,le]
 | inf=>
  cases a with
  | fin q g=>
   cases b with
   | fin r d=>
    have h:q<=r:=h;simp only[mul];by_cases f:r=0
    ·have:q=0:=by grind
     simp[f,this,le]
    simp_all[le]
   |inf=>simp[mul,le]
  |inf=>
   cases b with
   |fin r d=>exact h.elim
   |inf=>simp[mul,le]
theorem inv_eq{p:Rat}(h:p<1):1+p*(1-p)⁻¹=(1-p)⁻¹:=by grind
theorem Sy{p b x:Rat}(h:p<1)(e:b+p*x<=x):(1-p)⁻¹*b<=x:=by
 have a:(1-p)⁻¹*(1-p)=1:=Rat.inv_mul_cancel _ (by grind);have c:b<=(1-p)*x:=by grind
 have d:=Rat.mul_le_mul_of_nonneg_left c (inv_pos h);have f:(1-p)⁻¹*((1-p)*x)=x:=by rw[<-Rat.mul_assoc,a,Rat.one_mul]
 grind
def S:aW hJ where
 zero:=fin 0 (by grind)
 one:=fin 1 (by grind)
 add:=add
 mul:=mul
 star:=star
 le:=le
 add_assoc a b c:=by
  cases a<;>cases b<;>cases c<;>simp only[add]
  grind
 add_comm a b:=by
  cases a<;>cases b<;>simp only[add]
  grind
 zero_add a:=by
  cases a with
  |fin p i=>exact ext (Rat.zero_add p)
  |inf=>rfl
 mul_assoc:=O0
 mul_comm:=Iw
 one_mul:=Xb
 zero_mul:=Dc
 mul_add:=WT
 le_refl a:=by cases a<;>simp only[le]<;>grind
 le_trans {a b c} f g:=by cases a<;>cases b<;>cases c<;>simp only[le]at*<;>grind
 Eo {a b} f g:=by
  cases a<;>cases b<;>simp only[le]at*
  grind
 zero_le a:=by cases a<;>simp only[le]<;>assumption
 zW {a b c d} f g:=by cases a<;>cases b<;>cases c<;>cases d<;>simp only[le,add]at*<;>grind
 J1 {a b} c h:=QP c h
 BF a:=by
  cases a with
  |fin p i=>
   simp only[star];split
   ·next h=>exact ext (inv_eq h)
   grind[mul,add]
  |inf=>rfl
 vr {a b x} h:=by
  cases x with
  |inf=>grind[le]
  | fin r j=>
   cases b with
   |inf=>exact h.elim
   | fin q k=>
    cases a with
    | fin p i=>
     have h:q+p*r<=r:=h;simp only[star];split
     ·next f=>exact Sy f h
     ·next f=>
      have g:r<=p*r:=by
       have:=Rat.mul_le_mul_of_nonneg_right (show(1:Rat)<=p by grind) j
       grind
      grind[mul,le]
    | inf=>
     simp only[star,mul]at*;by_cases e:r=0
     ·subst e;simp only[if_pos rfl]at h;have h:q+0<=0:=h
      grind[le]
     ·rw[if_neg e]at h;exact h.elim
def max:hJ->hJ->hJ
 |fin p b,fin q a=>fin (if p<=q then q else p) (by grind)
 |_,_=>inf
def fC:hJ->hJ
 |inf=>inf
 |fin p _=>if p<=1 then fin 1 (by grind)else inf
theorem QN{a b:hJ}(h:le a b):max a b=b:=by
 cases a<;>cases b<;>simp only[le,max]at*
 grind
theorem WN{a b:hJ}(h:le b a):max a b=a:=by
 cases a<;>cases b<;>simp only[le,max]at*
 grind
theorem Za(a b:hJ):le a b\/le b a:=by cases a<;>cases b<;>simp only[le]<;>grind
def V:aW hJ:={ S with
 add:=max
 star:=fC
 add_assoc:=λa b c=>by cases a<;>cases b<;>cases c<;>simp only[max]<;>exact ext (by grind)
 add_comm:=λa b=>by cases a<;>cases b<;>simp only[max]<;>exact ext (by grind)
 zero_add:=λa=>QN (S.zero_le a)
 mul_add:=λa b c=>by
  show mul a (max b c)=max (mul a b) (mul a c)
  grind[Za,QN,QP,WN]
 zW:=λ{a b c d} i m=>by cases a<;>cases b<;>cases c<;>cases d<;>simp only[S,le,max]at*<;>grind
 BF:=λa=>by
  show max (fin 1 (by grind)) (mul a (fC a))=fC a
  cases a with
  |fin p k=>
   simp only[fC];split
   ·next h=>exact ext (by grind)
   grind[mul,max]
  |inf=>rfl
 vr:=λ{a b x} h=>by
  have h:le (max b (mul a x)) x:=h;show le (mul (fC a) b) x;have g:le b x:=by
   refine S.le_trans (?_:le b (max b (mul a x))) h;rcases Za b (mul a x)with e|e
   ·grind[QN]
   ·rw[WN e];exact S.le_refl b
  have f:le (mul a x) x:=by
   refine S.le_trans (?_:le (mul a x) (max b (mul a x))) h;rcases Za b (mul a x)with e|e
   ·rw[QN e];exact S.le_refl _
   ·grind[WN]
  cases x with
  |inf=>grind[le]
  | fin r o=>
   cases b with
   |inf=>exact g.elim
   | fin q l=>
    have g:q<=r:=g
    cases a with
    | fin p k=>
     have f:p*r<=r:=f;simp only[fC];split
     ·next i=>
      show 1*q<=r
      grind
     ·next i=>
      have:r=0:=by
       refine Classical.byContradiction λc=>?_;have j:0<r:=by grind
       have n:=Rat.mul_lt_mul_of_pos_right (show(1:Rat)<p by grind) j
       grind
      grind[mul]
    |inf=>
     simp only[mul]at f;by_cases e:r=0
     ·grind[fC,mul]
     ·rw[if_neg e]at f;exact f.elim }
end hJ
end Go.Num
end
section
namespace Go.Num
variable{z:Int}
abbrev dI:List UInt8:=[105,110,102]
abbrev jm:List UInt8:=[45,105,110,102]
def aO(b:Int)(a:List UInt8):Bool:=decide (1<=b/\b<=3)&&(a==[105,110,102]||a==[45,105,110,102]&&b==1||aA a&&(b==1||decide (0<=de a [48])))
def bP(a:Int):List UInt8:=if a=1 then dI else[48]
def r6(a:Int):List UInt8:=if a=1 then[48]else[49]
def dS(a b:List UInt8):Int:=if a=b then 0 else if a=jm\/b=dI then -1 else if a=dI\/b=jm then 1 else de a b
def Jm(c:Int)(a b:List UInt8):Int:=if c=1 then dS a b else dS b a
def fD(c:Int)(a b:List UInt8):Option (List UInt8):=if c≠2 then some (if Jm c b a<0 then b else a)else if a=dI\/b=dI then some dI else qT a b
def cO(c:Int)(a b:List UInt8):Option (List UInt8):=if a=bP c\/b=bP c then some (bP c)else if a=dI\/b=dI then some dI else if a=jm\/b=jm then some jm else if c=1 then qT a b else B3 a b
def nW(b:Int)(a:List UInt8):Option (List UInt8):=if b=1 then(if dS a [48]>=0 then some [48]else some jm)else if b=3 then(if dS a [49]<=0 then some [49]else some dI)else if dS a [49]>=0 then some dI else match qT [49] (sM a)with
 |some d=>Jo [49] d
 |none=>none
def EO(a:List UInt8):vU:=if a=dI then .inf else if a=jm then .low else .fin (br a)
noncomputable def mW(a:List UInt8):hJ:=if a=dI then .inf else if h:0<=br a then .fin (br a) h else .inf
structure vM{K:Type}(S:aW K)(dec:List UInt8->K)(kind:Int):Prop where
 zero:dec (bP kind)=S.zero
 one:dec (r6 kind)=S.one
 inj:∀{a b:List UInt8},aO kind a=true->aO kind b=true->dec a=dec b->a=b
 plus:∀{a b c:List UInt8},aO kind a=true->aO kind b=true->fD kind a b=some c->aO kind c=true/\dec c=S.add (dec a) (dec b)
 times:∀{a b c:List UInt8},aO kind a=true->aO kind b=true->cO kind a b=some c->aO kind c=true/\dec c=S.mul (dec a) (dec b)
 star:∀{a c:List UInt8},aO kind a=true->nW kind a=some c->aO kind c=true/\dec c=S.star (dec a)
theorem gH:aA [49]=true:=by decide
theorem je:br [48]=0:=by rfl
theorem ng:br [49]=1:=by rfl
theorem cw{a:List UInt8}(h:aA a=true):a≠dI/\a≠jm:=by
 constructor<;>intro e<;>rw[e]at h<;>exact absurd h (by decide)
theorem iC{a:List UInt8}(h:aO z a=true):z=1\/z=2\/z=3:=by
 unfold aO at h
 grind
theorem py{a:List UInt8}:aO 1 a=true↔a=dI\/a=jm\/aA a=true:=by simp_all[or_assoc,aO]
theorem UF{a:List UInt8}(h:aA a=true):0<=de a [48]↔0<=br a:=by
 have:=(rZ h gx).1
 grind[je]
theorem jr(d:z=2\/z=3){a:List UInt8}:aO z a=true↔a=dI\/(aA a=true/\0<=br a):=by
 have b:decide (1<=z/\z<=3)=true:=by simp;omega
 have c:(z==1)=false:=by rcases d with rfl|rfl<;>rfl
 unfold aO;rw[b,c,Bool.true_and,Bool.and_false,Bool.or_false,Bool.false_or,Bool.or_eq_true,Bool.and_eq_true,beq_iff_eq,decide_eq_true_eq]
 grind[UF]
theorem dL{a:List UInt8}(h:aA a=true):EO a = .fin (br a):=by simp_all[cw,EO]
theorem qV:EO dI = .inf:=by rfl
theorem oM:EO jm = .low:=by rfl
theorem dE{a:List UInt8}(h:aA a=true)(b:0<=br a):mW a = .fin (br a) b:=by simp_all[cw,mW]
theorem kD:mW dI = .inf:=by rfl
theorem tI{a b:List UInt8}(d:aA a=true)(c:aA b=true):(dS a b<0↔br a<br b)/\(dS a b=0↔br a=br b):=by
 obtain⟨f,g⟩:=rZ d c;unfold dS;by_cases e:a=b
 all_goals simp_all[cw]
theorem B1{a b:List UInt8}(d:aA a=true)(c:aA b=true):dS a b>=0↔br b<=br a:=by
 have:=(tI d c).1
 grind
theorem Rn{a b:List UInt8}(d:aA a=true)(c:aA b=true):dS a b<=0↔br a<=br b:=by
 obtain⟨e,f⟩:=tI d c
 grind
theorem acX:vM vU.S EO 1 where
 zero:=qV
 one:=by rfl
 inj:=λ{a b} d f e=>by grind[py,qV,oM,dL,zQ]
 plus:=λ{a b c} d f e=>by
  have e:some (if dS b a<0 then b else a)=some c:=e;obtain rfl:=oI e;refine⟨by grind,?_⟩;rcases py.1 d with rfl|rfl|d<;>rcases py.1 f with rfl|rfl|f
  ·rfl
  ·rfl
  ·have:dS b dI = -1:=by unfold dS;rw[if_neg (cw f).1,if_pos (.inr rfl)]
   rw[this,if_pos (by omega),qV,dL f];rfl
  ·rfl
  ·rfl
  ·have:dS b jm=1:=by unfold dS;rw[if_neg (cw f).2,if_neg (λc=>c.elim (cw f).2 (by decide)),if_pos (.inr rfl)]
   rw[this,if_neg (by omega),oM,dL f];rfl
  ·have:dS dI a=1:=by unfold dS;rw[if_neg (λe=>(cw d).1 e.symm),if_neg (λc=>c.elim (by decide) (cw d).1),if_pos (.inl rfl)]
   rw[this,if_neg (by omega),qV,dL d];rfl
  ·have:dS jm a = -1:=by unfold dS;rw[if_neg (λe=>(cw d).2 e.symm),if_pos (.inl rfl)]
   rw[this,if_pos (by omega),oM,dL d];rfl
  ·have h:=(tI f d).1;rw[dL d,dL f];show _=vU.fin (if br a<=br b then br a else br b);by_cases c:dS b a<0
   ·rw[if_pos c,dL f,if_neg (Rat.not_le.2 (h.1 c))]
   ·rw[if_neg c,dL d,if_pos (Rat.not_lt.1 λx=>c (h.2 x))]
 times:=λ{a b c} d f e=>by
  unfold cO at e;rw[show bP 1=dI from rfl]at e;rcases py.1 d with rfl|rfl|d
  ·rw[if_pos (.inl rfl)]at e;obtain rfl:=oI e;refine⟨d,?_⟩;rfl
  ·rcases py.1 f with rfl|rfl|f
   ·rw[if_pos (.inr rfl)]at e;obtain rfl:=oI e;exact⟨f,by rfl⟩
   ·rw[if_neg (by decide),if_neg (by decide),if_pos (.inl rfl)]at e;obtain rfl:=oI e;exact⟨f,by rfl⟩
   ·rw[if_neg (λc=>c.elim (by decide) (cw f).1),if_neg (λc=>c.elim (by decide) (cw f).1),if_pos (.inl rfl)]at e;obtain rfl:=oI e;exact⟨d,by rw[oM,dL f];rfl⟩
  ·rcases py.1 f with rfl|rfl|f
   ·rw[if_pos (.inr rfl)]at e;obtain rfl:=oI e;exact⟨f,by rw[qV,dL d];rfl⟩
   ·rw[if_neg (λc=>c.elim (cw d).1 (by decide)),if_neg (λc=>c.elim (cw d).1 (by decide)),if_pos (.inr rfl)]at e;obtain rfl:=oI e;exact⟨f,by rw[oM,dL d];rfl⟩
   ·rw[if_neg (λc=>c.elim (cw d).1 (cw f).1),if_neg (λc=>c.elim (cw d).1 (cw f).1),if_neg (λc=>c.elim (cw d).2 (cw f).2),if_pos rfl]at e;obtain⟨i,j⟩:=pK d f e;exact⟨py.2 (.inr (.inr i)),by rw[dL d,dL f,dL i,j];rfl⟩
 star:=λ{a c} d e=>by
  unfold nW at e;rw[if_pos rfl]at e;rcases py.1 d with rfl|rfl|d
  ·rw[if_pos (by decide)]at e;obtain rfl:=oI e;exact⟨by decide,by rfl⟩
  ·rw[if_neg (by decide)]at e;obtain rfl:=oI e;exact⟨by decide,by rfl⟩
  ·have h:=B1 d gx;rw[je]at h;rw[dL d];show _/\_=if 0<=br a then vU.fin 0 else vU.low;by_cases g:dS a [48]>=0
   ·rw[if_pos g]at e;obtain rfl:=oI e;exact⟨by decide,by rw[if_pos (h.1 g),dL gx,je]⟩
   ·rw[if_neg g]at e;obtain rfl:=oI e;exact⟨by decide,by rw[if_neg λx=>g (h.2 x),oM]⟩
theorem EM(f:z=2\/z=3){a b:List UInt8}(d:aO z a=true)(c:aO z b=true)(e:mW a=mW b):a=b:=by grind[jr,kD,dE,zQ]
theorem H4(a:z=2\/z=3):aO z dI=true:=by grind[jr]
theorem AA(g:z=2\/z=3){a b c:List UInt8}(j:aO z a=true)(k:aO z b=true)(e:cO z a b=some c):aO z c=true/\mW c=hJ.mul (mW a) (mW b):=by
 have v:bP z=[48]:=by rcases g with rfl|rfl<;>rfl
 have t:¬z=1:=by omega
 have l:aO z [48]=true:=(jr g).2 (.inr ⟨gx,by rfl⟩);have r:mW [48] = .fin 0 Rat.le_refl:=by rw[dE gx (by rfl)];exact hJ.ext je
 unfold cO at e;rw[v]at e;have w:∀{x:List UInt8},aA x=true->x≠[48]->br x≠0:=λs u e=>u (zQ s gx (by rw[e,je]));by_cases q:a=[48]
 ·subst q;rw[if_pos (.inl rfl)]at e;obtain rfl:=oI e;exact⟨l,by rw[r];simp[hJ.Dc]⟩
 by_cases o:b=[48]
 ·subst o;rw[if_pos (.inr rfl)]at e;obtain rfl:=oI e;exact⟨l,by rw[hJ.Iw,r];simp[hJ.Dc]⟩
 rw[if_neg (λx=>x.elim q o)]at e;rcases(jr g).1 j with rfl|⟨f,h⟩<;>rcases(jr g).1 k with rfl|⟨d,i⟩
 ·rw[if_pos (.inl rfl)]at e;obtain rfl:=oI e;exact⟨j,by rfl⟩
 ·rw[if_pos (.inl rfl)]at e;obtain rfl:=oI e;refine⟨j,?_⟩;rw[kD,dE d i];show _=if br b=0 then _ else _
  grind
 ·rw[if_pos (.inr rfl)]at e;obtain rfl:=oI e;refine⟨k,?_⟩;rw[kD,dE f h];show _=if br a=0 then _ else _
  grind
 ·rw[if_neg (λc=>c.elim (cw f).1 (cw d).1),if_neg (λc=>c.elim (cw f).2 (cw d).2),if_neg t]at e;obtain⟨n,m⟩:=Di f d e;have p:0<=br c:=by rw[m];exact Rat.mul_nonneg h i
  refine⟨(jr g).2 (.inr ⟨n,p⟩),?_⟩;rw[dE f h,dE d i,dE n p];exact hJ.ext m
theorem Dd:mW [48]=hJ.S.zero:=by rfl
theorem EN:mW [49]=hJ.S.one:=by rfl
theorem Ca(b:z=2\/z=3){a:List UInt8}(h:aA a=true)(c:0<=br a):aO z a=true:=by grind[jr]
theorem B9(a:z=2\/z=3):aO z [49]=true:=Ca a gH (by rfl)
theorem acW:vM hJ.S mW 2 where
 zero:=Dd
 one:=EN
 inj:=EM (.inl rfl)
 times:=AA (.inl rfl)
 plus:=λ{a b c} k o e=>by
  unfold fD at e;rw[if_neg (by decide)]at e;rcases(jr (.inl rfl)).1 k with rfl|⟨f,l⟩
  ·rw[if_pos (.inl rfl)]at e;obtain rfl:=oI e;exact⟨k,by rfl⟩
  rcases(jr (.inl rfl)).1 o with rfl|⟨m,q⟩
  ·rw[if_pos (.inr rfl)]at e;obtain rfl:=oI e;exact⟨o,by rw[kD];cases mW a<;>rfl⟩
  rw[if_neg (λc=>c.elim (cw f).1 (cw m).1)]at e;obtain⟨j,i⟩:=pK f m e;have n:0<=br c:=by rw[i];exact Rat.add_nonneg l q
  refine⟨Ca (.inl rfl) j n,?_⟩;rw[dE f l,dE m q,dE j n];exact hJ.ext i
 star:=λ{a c} k e=>by
  unfold nW at e;rw[if_neg (by decide),if_neg (by decide)]at e;rcases(jr (.inl rfl)).1 k with rfl|⟨f,l⟩
  ·rw[if_pos (by decide)]at e;obtain rfl:=oI e;exact⟨k,by rfl⟩
  have h:=B1 f gH;rw[ng]at h;rw[dE f l];show _/\_=if h:br a<1 then hJ.fin (1-br a)⁻¹ _ else hJ.inf;by_cases g:dS a [49]>=0
  ·rw[if_pos g]at e;obtain rfl:=oI e
   simp_all[H4,Rat.not_lt,kD]
  ·rw[if_neg g]at e;have u:br a<1:=Rat.not_le.1 λx=>g (h.2 x);rw[dif_pos u]
   cases p:qT [49] (sM a)with
   |none=>grind
   | some d=>
    rw[p]at e;dsimp only at e;obtain⟨s,t⟩:=yb f;obtain⟨j,i⟩:=pK gH s p;rw[t,ng]at i;have r:br d=1-br a:=by rw[i,Rat.sub_eq_add_neg]
    have v:val (numOf d)≠0:=λe=>by
     have:=(ba.1 j).Ah;rw[e,tN]at this;have:=Rat.num_eq_zero.1 this;rw[r]at this
     grind
    obtain⟨n,w⟩:=La gH j v e;rw[ng,Rat.one_mul,r]at w
    grind[Ca,dE]
theorem acY:vM hJ.V mW 3 where
 zero:=Dd
 one:=EN
 inj:=EM (.inr rfl)
 times:=AA (.inr rfl)
 plus:=λ{a b c} j l e=>by
  have e:some (if dS a b<0 then b else a)=some c:=e;obtain rfl:=oI e;refine⟨by grind,?_⟩;rcases(jr (.inr rfl)).1 j with rfl|⟨d,i⟩<;>rcases(jr (.inr rfl)).1 l with rfl|⟨f,k⟩
  ·rfl
  ·have:dS dI b=1:=by unfold dS;rw[if_neg (λe=>(cw f).1 e.symm),if_neg (λc=>c.elim (by decide) (cw f).1),if_pos (.inl rfl)]
   rw[this,if_neg (by omega),kD];rfl
  ·have:dS a dI = -1:=by unfold dS;rw[if_neg (cw d).1,if_pos (.inr rfl)]
   rw[this,if_pos (by omega),kD];cases mW a<;>rfl
  ·have h:=(tI d f).1;rw[dE d i,dE f k];show _=hJ.fin (if br a<=br b then br b else br a) _;by_cases c:dS a b<0
   ·rw[if_pos c,dE f k]
    grind
   ·rw[if_neg c,dE d i]
    grind
 star:=λ{a c} j e=>by
  unfold nW at e;rw[if_neg (by decide),if_pos rfl]at e;rcases(jr (.inr rfl)).1 j with rfl|⟨d,i⟩
  ·rw[if_neg (by decide)]at e;obtain rfl:=oI e;exact⟨j,by rfl⟩
  have h:=Rn d gH;rw[ng]at h;rw[dE d i];show _/\_=if br a<=1 then hJ.fin 1 _ else hJ.inf;by_cases g:dS a [49]<=0
  ·rw[if_pos g]at e;obtain rfl:=oI e;exact⟨B9 (.inr rfl),by rw[if_pos (h.1 g),dE gH (by rw[ng];decide)];rfl⟩
  ·rw[if_neg g]at e;obtain rfl:=oI e
   simp_all[H4,kD]
theorem AF{kind:Int}(h:1<=kind/\kind<=3):∃(K:Type)(S:aW K)(a:List UInt8->K),vM S a kind:=by
 obtain rfl|rfl|rfl:kind=1\/kind=2\/kind=3:=by omega
 all_goals grind[acX,acW,acY]
section
structure sK(α:Type) where
 zero:α
 one:α
 A4:α->Bool
 plus:α->α->Option α
 times:α->α->Option α
 star:α->Option α
def bt{β:Type}(f:β->Nat->Option β):Nat->Nat->β->Option β
 |0,_,b=>some b
 |k+1,i,b=>match f b i with
  |some a=>bt f k (i+1) a
  |none=>none
structure kx(α:Type) where
 i:Int
 o:Int
 w:α
 t:Nat
structure K5(α:Type) where
 fin:Option α
 arcs:List (kx α)
structure ia(α:Type) where
 lead:α
 start:Nat
 bT:List (K5 α)
section
variable {α:Type} (O:sK α)
def iB(l:List α)(t:Nat)(a b:α):Option (List α):=match O.times a b with
 |none=>none
 |some p=>match O.plus (l.getD t O.zero) p with
  |none=>none
  |some s=>some (l.set t s)
def bK(n:Nat):List α:=List.replicate n O.zero
def cG:kx α:=⟨0,0,O.zero,0⟩
def ew:K5 α:=⟨none,[]⟩
def lH(i o:Int)(u:α)(a:List (kx α))(l:List α)(k:Nat):Option (List α):=
 if(a.getD k (cG O)).i≠i\/(a.getD k (cG O)).o≠o then some l else iB O l (a.getD k (cG O)).t u (a.getD k (cG O)).w
def td(M:ia α)(v:List α)(i o:Int)(l:List α)(q:Nat):Option (List α):=
 if O.A4 (v.getD q O.zero)then some l else bt (lH O i o (v.getD q O.zero) (M.bT.getD q ew).arcs) (M.bT.getD q ew).arcs.length 0 l
def mM(M:ia α)(v:List α)(i o:Int):Option (List α):=bt (td O M v i o) M.bT.length 0 (bK O M.bT.length)
def AH(a b:List α)(l:List α)(i:Nat):Option (List α):=match O.plus (a.getD i O.zero) (b.getD i O.zero)with
 |none=>none
 |some s=>some (l++[s])
def qe(a b:List α):Option (List α):=bt (AH O a b) a.length 0 []
def fL(a:List (kx α))(l:List α)(k:Nat):Option (List α):=
 if(a.getD k (cG O)).i≠0\/(a.getD k (cG O)).o≠0 then some l else match O.plus (l.getD (a.getD k (cG O)).t O.zero) (a.getD k (cG O)).w with
  |none=>none
  |some s=>some (l.set (a.getD k (cG O)).t s)
def iK(M:ia α)(A:List (List α))(q:Nat):Option (List (List α)):=match bt (fL O (M.bT.getD q ew).arcs) (M.bT.getD q ew).arcs.length 0 (bK O M.bT.length)with
 |none=>none
 |some r=>some (A++[r])
def qU(M:ia α):Bool:=M.bT.any λs=>s.arcs.any λa=>decide (a.i=0)&&decide (a.o=0)
def ch(B:List (List α))(i j:Nat):α:=(B.getD i []).getD j O.zero
def df(B:List (List α))(s:α)(k i:Nat)(r:List α)(j:Nat):Option (List α):=
 if O.A4 (ch O B i k)||O.A4 (ch O B k j)then some (r++[ch O B i j])else match O.times (ch O B i k) s with
  |none=>none
  | some p=>match O.times p (ch O B k j)with
   |none=>none
   |some a=>match O.plus (ch O B i j) a with
    |none=>none
    |some c=>some (r++[c])
def jJ(B:List (List α))(s:α)(k:Nat)(C:List (List α))(i:Nat):Option (List (List α)):=match bt (df O B s k i) B.length 0 []with
 |none=>none
 |some r=>some (C++[r])
def gQ(B:List (List α))(k:Nat):Option (List (List α)):=match O.star (ch O B k k)with
 |none=>none
 |some s=>bt (jJ O B s k) B.length 0 []
def qt(B:List (List α))(i:Nat):Option (List (List α)):=match O.plus O.one (ch O B i i)with
 |none=>none
 |some s=>some (B.set i ((B.getD i []).set i s))
def mL(A:List (List α)):Option (List (List α)):=match bt (gQ O) A.length 0 A with
 |none=>none
 |some B=>bt (qt O) A.length 0 B
def eG(M:ia α):Option (Option (List (List α))):=match bt (iK O M) M.bT.length 0 []with
 |none=>none
 | some A=>if qU M then(if 60<M.bT.length then none else match mL O A with
   |none=>none
   |some B=>some (some B))else some none
def gR(v:List α)(B:List (List α))(q:Nat)(l:List α)(p:Nat):Option (List α):=
 if O.A4 (v.getD q O.zero)||O.A4 (ch O B q p)then some l else iB O l p (v.getD q O.zero) (ch O B q p)
def ic(v:List α):Option (List (List α))->Option (List α)
 |none=>some v
 |some B=>bt (λl q=>bt (gR O v B q) v.length 0 l) v.length 0 (bK O v.length)
def lF(M:ia α)(v:List α)(l:List α)(q:Nat):Option (List α):=match (M.bT.getD q ew).fin with
 |none=>some l
 |some f=>iB O l 0 (v.getD q O.zero) f
def qW(M:ia α)(v:List α):Option α:=match bt (lF O M v) v.length 0 [O.zero]with
 |none=>none
 |some l=>some (l.getD 0 O.zero)
def eF(T:List (List (List α)))(i j:Nat):List α:=(T.getD i []).getD j []
def gj(T:List (List (List α)))(i j:Nat)(v:List α):List (List (List α)):=T.set i ((T.getD i []).set j v)
def cm(x:List Int)(i b:Nat):Int:=if b=1 then x.getD i 0 else 0
def qY(M:ia α)(x y:List Int)(v:List α)(i j:Nat)(T:List (List (List α)))(k:Nat):Option (List (List (List α))):=
 if x.length<i+k%2\/y.length<j+k/2 then some T else match mM O M v (cm x i (k%2)) (cm y j (k/2))with
  |none=>none
  |some s=>match qe O (eF T (i+k%2) (j+k/2)) s with
   |none=>none
   |some r=>some (gj T (i+k%2) (j+k/2) r)
def r7(M:ia α)(B:Option (List (List α)))(x y:List Int)(i:Nat)(T:List (List (List α)))(j:Nat):Option (List (List (List α))):=match ic O (eF T i j) B with
 |none=>none
 |some v=>bt (qY O M x y v i j) 3 1 (gj T i j v)
def tL(M:ia α)(B:Option (List (List α)))(x y:List Int)(T:List (List (List α)))(i:Nat):Option (List (List (List α))):=bt (r7 O M B x y i) (y.length+1) 0 T
def mc(M:ia α)(x y:List Int):List (List (List α)):=gj (List.replicate (x.length+1) (List.replicate (y.length+1) (bK O M.bT.length))) 0 0 ((bK O M.bT.length).set M.start M.lead)
def ft(M:ia α)(x y:List Int):Option α:=match eG O M with
 |none=>none
 |some B=>match bt (tL O M B x y) (x.length+1) 0 (mc O M x y)with
  |none=>none
  |some T=>qW O M (eF T x.length y.length)
end
structure Ji{α β:Type}(O:sK α)(P:sK β)(V:α->Prop)(h:α->β):Prop where
 zero:V O.zero/\h O.zero=P.zero
 one:V O.one/\h O.one=P.one
 A4:∀{a},V a->P.A4 (h a)=O.A4 a
 plus:∀{a b c},V a->V b->O.plus a b=some c->V c/\P.plus (h a) (h b)=some (h c)
 times:∀{a b c},V a->V b->O.times a b=some c->V c/\P.times (h a) (h b)=some (h c)
 star:∀{a c},V a->O.star a=some c->V c/\P.star (h a)=some (h c)
theorem fh{β j:Type}{H:β->j}{VB:β->Prop}{f:β->Nat->Option β}{g:j->Nat->Option j}(l:∀b i a,VB b->f b i=some a->VB a/\g (H b) i=some (H a)):∀(k i:Nat)(b a:β),VB b->bt f k i b=some a->VB a/\bt g k i (H b)=some (H a)
 |0,i,b,a,d,h=>by
  obtain rfl:=oI h;exact⟨d,rfl⟩
 | k+1,i,b,a,d,h=>by
  unfold bt at h⊢
  cases e:f b i with
  |none=>grind
  |some c=>
   rw[e]at h;obtain⟨m,n⟩:=l b i c d e;rw[n];exact fh l k (i+1) c a m h
def mapA{α β:Type}(h:α->β)(a:kx α):kx β:=⟨a.i,a.o,h a.w,a.t⟩
def qd{α β:Type}(h:α->β)(s:K5 α):K5 β:=⟨s.fin.map h,s.arcs.map (mapA h)⟩
def mapM{α β:Type}(h:α->β)(M:ia α):ia β:=⟨h M.lead,M.start,M.bT.map (qd h)⟩
def bG{α:Type}(V:α->Prop)(l:List α):Prop:=∀a∈l,V a
structure EG{α:Type}(V:α->Prop)(M:ia α):Prop where
 lead:V M.lead
 fin:∀s∈M.bT,∀f,s.fin=some f->V f
 w:∀s∈M.bT,∀a∈s.arcs,V a.w
section
variable {α β:Type} {O:sK α} {P:sK β} {V:α->Prop} {h:α->β}
theorem wj(l:List α)(i:Nat)(d:α):(l.map h).getD i (h d)=h (l.getD i d):=by grind
theorem qX{l:List α}(b:bG V l){d:α}(c:V d)(i:Nat):V (l.getD i d):=by
 rw[gD]
 cases e:l[i]? with
 |none=>grind
 |some a=>exact b a (List.mem_of_getElem? e)
theorem bG.set{l:List α}(b:bG V l){a:α}(d:V a)(i:Nat):bG V (l.set i a):=λx c=>by
 rcases List.mem_or_eq_of_mem_set c with h|h
 ·exact b x h
 grind
theorem bG.snoc{l:List α}(b:bG V l){a:α}(d:V a):bG V (l++[a]):=λx c=>by
 rcases List.mem_append.1 c with h|h
 ·exact b x h
 grind
theorem bG.rep{a:α}(c:V a)(n:Nat):bG V (List.replicate n a):=λx b=>by grind
variable (H:Ji O P V h)
include H
theorem Ji.getD(l:List α)(i:Nat):(l.map h).getD i P.zero=h (l.getD i O.zero):=by rw[<-H.zero.2];grind
theorem Ji.at_{l:List α}(a:bG V l)(i:Nat):V (l.getD i O.zero):=qX a H.zero.1 i
theorem zI{l c:List α}{a b:α}{t:Nat}(f:bG V l)(n:V a)(i:V b)(e:iB O l t a b=some c):bG V c/\iB P (l.map h) t (h a) (h b)=some (c.map h):=by
 unfold iB at e⊢
 cases d:O.times a b with
 |none=>grind
 | some p=>
  rw[d]at e;obtain⟨k,m⟩:=H.times n i d;rw[m];dsimp only at e⊢;rw[H.getD]
  cases g:O.plus (l.getD t O.zero) p with
  |none=>grind
  |some s=>
   rw[g]at e;obtain⟨j,o⟩:=H.plus (H.at_ f t) k g;obtain rfl:=oI e;rw[o];exact⟨f.set j t,by simp⟩
theorem EI(a:List (kx α))(k:Nat):(a.map (mapA h)).getD k (cG P)=mapA h (a.getD k (cG O)):=by
 have:cG P=mapA h (cG O):=by unfold cG mapA;rw[H.zero.2]
 grind
theorem Qm{b:List (kx α)}(c:∀a∈b,V a.w)(k:Nat):V (b.getD k (cG O)).w:=
 qX (V:=λ(a:kx α)=>V a.w) c (by unfold cG;exact H.zero.1) k
theorem Hg{i o:Int}{u:α}{b:List (kx α)}(g:V u)(j:∀a∈b,V a.w)(l:List α)(k:Nat)(d:List α)(f:bG V l)(e:lH O i o u b l k=some d):bG V d/\lH P i o (h u) (b.map (mapA h)) (l.map h) k=some (d.map h):=by
 unfold lH at e⊢;rw[EI H];show bG V d/\(if(b.getD k (cG O)).i≠i\/(b.getD k (cG O)).o≠o then some (l.map h)else iB P (l.map h) (b.getD k (cG O)).t (h u) (h (b.getD k (cG O)).w))=some (d.map h);split at e
 ·grind
 ·next c=>rw[if_neg c];grind[zI,Qm]
omit H in
theorem B7(M:ia α)(q:Nat):(mapM h M).bT.getD q ew=qd h (M.bT.getD q ew):=wj (h:=qd h) M.bT q ew
omit H in
theorem wo{M:ia α}(q:Nat):M.bT.getD q ew=ew\/M.bT.getD q ew∈M.bT:=by grind
omit H in
theorem UI{M:ia α}(c:EG V M)(q:Nat):∀a∈(M.bT.getD q ew).arcs,V a.w:=λa b=>by
 rcases wo (M:=M) q with e|e
 ·rw[e]at b;cases b
 ·exact c.w _ e a b
omit H in
theorem ZU{M:ia α}(b:EG V M)(q:Nat){f:α}(a:(M.bT.getD q ew).fin=some f):V f:=by
 rcases wo (M:=M) q with e|e
 ·rw[e]at a;cases a
 ·exact b.fin _ e f a
theorem r8(n:Nat):bG V (bK O n)/\(bK O n).map h=bK P n:=⟨bG.rep H.zero.1 n,by unfold bK;rw[List.map_replicate,H.zero.2]⟩
theorem Lm{M:ia α}(j:EG V M){v b:List α}{i o:Int}(d:bG V v)(e:mM O M v i o=some b):bG V b/\mM P (mapM h M) (v.map h) i o=some (b.map h):=by
 unfold mM at e⊢;have f:=r8 H M.bT.length;have a:(mapM h M).bT.length=M.bT.length:=lM _;rw[a,<-f.2];refine fh (VB:=bG V) (H:=List.map h) (λl q k g e=>?_) _ _ _ _ f.1 e;unfold td at e⊢;rw[H.getD,B7,H.A4 (H.at_ d q)];split at e
 ·grind
 ·next c=>
  rw[if_neg c];have a:(qd h (M.bT.getD q ew)).arcs.length=(M.bT.getD q ew).arcs.length:=lM _;rw[a];exact fh (VB:=bG V) (H:=List.map h) (Hg H (H.at_ d q) (UI j q)) _ _ _ _ g e
theorem Om{a b c:List α}(k:bG V a)(f:bG V b)(e:qe O a b=some c):bG V c/\qe P (a.map h) (b.map h)=some (c.map h):=by
 unfold qe at e⊢;rw[lM];refine fh (VB:=bG V) (H:=List.map h) (λl q m g e=>?_) _ _ _ _ (λx n=>by grind) e;unfold AH at e⊢;rw[H.getD,H.getD]
 cases d:O.plus (a.getD q O.zero) (b.getD q O.zero)with
 |none=>grind
 |some s=>
  rw[d]at e;obtain⟨i,j⟩:=H.plus (H.at_ k q) (H.at_ f q) d;obtain rfl:=oI e;rw[j];exact⟨g.snoc i,by grind⟩
theorem qI(B:List (List α))(i j:Nat):ch P (B.map (List.map h)) i j=h (ch O B i j):=by
 unfold ch;have:(B.map (List.map h)).getD i []=(B.getD i []).map h:=wj (h:=List.map h) B i [];rw[this,H.getD]
theorem px{B:List (List α)}(a:bG (bG V) B)(i j:Nat):V (ch O B i j):=H.at_ (qX a (λx b=>by grind) i) j
theorem Jq{M:ia α}(vm:EG V M){r:Option (List (List α))}(e:eG O M=some r):(∀B,r=some B->bG (bG V) B)/\eG P (mapM h M)=some (r.map (List.map (List.map h))):=by
 unfold eG at e⊢;have I:(mapM h M).bT.length=M.bT.length:=lM _;rw[I]
 cases J:bt (iK O M) M.bT.length 0 []with
 |none=>grind
 | some A=>
  rw[J]at e;obtain⟨h1,t⟩:=fh (VB:=bG (bG V)) (H:=List.map (List.map h)) (g:=iK P (mapM h M)) (λA q A' hA e=>by
   unfold iK at e⊢;have R:=r8 H M.bT.length;rw[B7,I,<-R.2];have K:(qd h (M.bT.getD q ew)).arcs.length=(M.bT.getD q ew).arcs.length:=lM _;rw[K]
   cases y:bt (fL O (M.bT.getD q ew).arcs) (M.bT.getD q ew).arcs.length 0 (bK O M.bT.length)with
   |none=>rw[y]at e;cases e
   | some r=>
    rw[y]at e;obtain rfl:=oI e;obtain⟨Y,h4⟩:=fh (VB:=bG V) (H:=List.map h) (g:=fL P (qd h (M.bT.getD q ew)).arcs) (λl k l' o e=>by
     unfold fL at e⊢;show _/\(if(((M.bT.getD q ew).arcs.map (mapA h)).getD k (cG P)).i≠0\/(((M.bT.getD q ew).arcs.map (mapA h)).getD k (cG P)).o≠0 then some (l.map h)else match P.plus ((l.map h).getD (((M.bT.getD q ew).arcs.map (mapA h)).getD k (cG P)).t P.zero) (((M.bT.getD q ew).arcs.map (mapA h)).getD k (cG P)).w with
      |none=>none
      |some s=>some ((l.map h).set (((M.bT.getD q ew).arcs.map (mapA h)).getD k (cG P)).t s))=_
     rw[EI H];have hw:=Qm H (UI vm q) k;generalize (M.bT.getD q ew).arcs.getD k (cG O)=c at*;show _/\(if c.i≠0\/c.o≠0 then some (l.map h)else match P.plus ((l.map h).getD c.t P.zero) (h c.w)with
      |none=>none
      |some s=>some ((l.map h).set c.t s))=_
     split at e
     ·next g=>rw[if_pos g];obtain rfl:=oI e;exact⟨o,rfl⟩
     ·next g=>
      rw[if_neg g,H.getD]
      cases a:O.plus (l.getD c.t O.zero) c.w with
      |none=>rw[a]at e;cases e
      |some s=>
       rw[a]at e;obtain⟨F,z⟩:=H.plus (H.at_ o c.t) hw a;obtain rfl:=oI e;rw[z];exact⟨o.set F _,by rw[map_set]⟩) _ _ _ _ R.1 y
    rw[h4];exact⟨hA.snoc Y,by rw[map_append];rfl⟩) _ _ _ _ (λx d=>by cases d) J
  have t:bt (iK P (mapM h M)) M.bT.length 0 []=some (A.map (List.map h)):=t;rw[t];dsimp only at e⊢;have ha:qU (mapM h M)=qU M:=by
   unfold qU;show(M.bT.map (qd h)).any _=_;rw[List.any_map];congr 1;funext s;show((s.arcs.map (mapA h)).any _)=_;rw[List.any_map];rfl
  rw[ha];split at e
  ·next c=>
   rw[if_pos c];split at e
   ·cases e
   ·next c2=>
    rw[if_neg c2]
    cases a:mL O A with
    |none=>rw[a]at e;cases e
    | some B=>
     rw[a]at e;obtain rfl:=oI e;have m:bG (bG V) B/\mL P (A.map (List.map h))=some (B.map (List.map h)):=by
      unfold mL at a⊢;rw[lM]
      cases u:bt (gQ O) A.length 0 A with
      |none=>rw[u]at a;cases a
      | some C=>
       rw[u]at a;obtain⟨F,z⟩:=fh (VB:=bG (bG V)) (H:=List.map (List.map h)) (g:=gQ P) (λB k S b e=>by
        unfold gQ at e⊢;rw[qI H,lM]
        cases E:O.star (ch O B k k)with
        |none=>rw[E]at e;cases e
        | some s=>
         rw[E]at e;obtain⟨h7,h8⟩:=H.star (px H b k k) E;rw[h8];refine fh (VB:=bG (bG V)) (H:=List.map (List.map h)) (λC i C' W e=>?_) _ _ _ _ (λx d=>by cases d) e;unfold jJ at e⊢;rw[lM]
         cases w:bt (df O B s k i) B.length 0 []with
         |none=>rw[w]at e;cases e
         | some r=>
          rw[w]at e;obtain rfl:=oI e;obtain⟨h9,f⟩:=fh (VB:=bG V) (H:=List.map h) (g:=df P (B.map (List.map h)) (h s) k i) (λr j r' T e=>by
           unfold df at e⊢;rw[qI H,qI H,qI H,H.A4 (px H b i k),H.A4 (px H b k j)];split at e
           ·next g=>rw[if_pos g];obtain rfl:=oI e;exact⟨T.snoc (px H b i j),by rw[map_append];rfl⟩
           ·next g=>
            rw[if_neg g]
            cases D:O.times (ch O B i k) s with
            |none=>rw[D]at e;cases e
            | some p=>
             rw[D]at e;obtain⟨Z,U⟩:=H.times (px H b i k) h7 D;rw[U];dsimp only at e⊢
             cases n:O.times p (ch O B k j)with
             |none=>rw[n]at e;cases e
             | some X=>
              rw[n]at e;obtain⟨u3,u4⟩:=H.times Z (px H b k j) n;rw[u4];dsimp only at e⊢
              cases v:O.plus (ch O B i j) X with
              |none=>rw[v]at e;cases e
              |some c=>
               rw[v]at e;obtain⟨u5,u6⟩:=H.plus (px H b i j) u3 v;rw[u6];obtain rfl:=oI e;exact⟨T.snoc u5,by rw[map_append];rfl⟩) _ _ _ _ (λx d=>by cases d) w
          have f:bt (df P (B.map (List.map h)) (h s) k i) B.length 0 []=some (r.map h):=f;rw[f];exact⟨W.snoc h9,by rw[map_append];rfl⟩) _ _ _ _ h1 u
       rw[z];dsimp only at a⊢;refine fh (VB:=bG (bG V)) (H:=List.map (List.map h)) (λB i S b e=>?_) _ _ _ _ F a;unfold qt at e⊢;rw[qI H,<-H.one.2]
       cases G:O.plus O.one (ch O B i i)with
       |none=>rw[G]at e;cases e
       |some s=>
        rw[G]at e;obtain⟨N,Q⟩:=H.plus H.one.1 (px H b i i) G;rw[Q];obtain rfl:=oI e;have hg:(B.map (List.map h)).getD i []=(B.getD i []).map h:=wj (h:=List.map h) B i [];have L:bG V (B.getD i []):=qX b (λx d=>by cases d) i;exact⟨bG.set (V:=bG V) b (L.set N i) i,by rw[map_set,hg,map_set]⟩
     rw[m.2];exact⟨λS e=>by obtain rfl:=oI e;exact m.1,rfl⟩
  grind
theorem Og{v d:List α}(b:bG V v){B:Option (List (List α))}(a:∀C,B=some C->bG (bG V) C)(e:ic O v B=some d):bG V d/\ic P (v.map h) (B.map (List.map (List.map h)))=some (d.map h):=by
 cases B with
 |none=>obtain rfl:=oI e;exact⟨b,rfl⟩
 |some B=>
  have a:=a B rfl;have i:=r8 H v.length;show _/\bt (λl q=>bt (gR P (v.map h) (B.map (List.map h)) q) (v.map h).length 0 l) (v.map h).length 0 (bK P (v.map h).length)=_;rw[lM,<-i.2];refine fh (VB:=bG V) (H:=List.map h) (λl q f c e=>?_) _ _ _ _ i.1 e;refine fh (VB:=bG V) (H:=List.map h) (λl p f c e=>?_) _ _ _ _ c e;unfold gR at e⊢;rw[H.getD,qI H,H.A4 (H.at_ b q),H.A4 (px H a q p)];split at e
  ·grind
  ·next g=>rw[if_neg g];exact zI H c (H.at_ b q) (px H a q p) e
theorem Rr{M:ia α}(n:EG V M){v:List α}{c:α}(i:bG V v)(e:qW O M v=some c):V c/\qW P (mapM h M) (v.map h)=some (h c):=by
 unfold qW at e⊢;rw[lM]
 cases b:bt (lF O M v) v.length 0 [O.zero]with
 |none=>grind
 | some l=>
  rw[b]at e;obtain rfl:=oI e;obtain⟨m,a⟩:=fh (VB:=bG V) (H:=List.map h) (g:=lF P (mapM h M) (v.map h)) (λl q o j e=>by
   unfold lF at e⊢;rw[B7,H.getD];show _/\(match (M.bT.getD q ew).fin.map h with|none=>some (l.map h)|some f=>iB P (l.map h) 0 (h (v.getD q O.zero)) f)=_
   cases d:(M.bT.getD q ew).fin with
   |none=>grind
   |some f=>rw[d]at e;exact zI H j (H.at_ i q) (ZU n q d) e) _ _ _ _ (λx k=>by rw[mem_singleton.1 k];exact H.zero.1) b
  have a:bt (lF P (mapM h M) (v.map h)) v.length 0 [h O.zero]=some (l.map h):=a;rw[H.zero.2]at a;rw[a];dsimp only;rw[H.getD];exact⟨H.at_ m 0,rfl⟩
omit H in
theorem B0(T:List (List (List α)))(i j:Nat):eF (T.map (List.map (List.map h))) i j=(eF T i j).map h:=by grind[eF]
omit H in
theorem zS(T:List (List (List α)))(i j:Nat)(v:List α):gj (T.map (List.map (List.map h))) i j (v.map h)=(gj T i j v).map (List.map (List.map h)):=by grind[map_set,gj]
omit H in
theorem Jl{T:List (List (List α))}(b:bG (bG (bG V)) T)(i j:Nat):bG V (eF T i j):=
 qX (V:=bG V) (qX (V:=bG (bG V)) b (λx a=>by grind) i) (λx a=>by grind) j
omit H in
theorem EZ{T:List (List (List α))}(a:bG (bG (bG V)) T){v:List α}(b:bG V v)(i j:Nat):bG (bG (bG V)) (gj T i j v):=
 bG.set (V:=bG (bG V)) a (bG.set (V:=bG V) (qX (V:=bG (bG V)) a (λx c=>by grind) i) b j) i
theorem Jv{M:ia α}(b:EG V M){x y:List Int}{w:α}(e:ft O M x y=some w):V w/\ft P (mapM h M) x y=some (h w):=by
 unfold ft at e⊢
 cases m:eG O M with
 |none=>grind
 | some B=>
  rw[m]at e;obtain⟨A,C⟩:=Jq H b m;rw[C];dsimp only at e⊢;have f:=r8 H M.bT.length;have t:(mapM h M).bT.length=M.bT.length:=lM _;have u:bG (bG (bG V)) (mc O M x y)/\mc P (mapM h M) x y=(mc O M x y).map (List.map (List.map h)):=by
   unfold mc;refine⟨EZ (bG.rep (bG.rep f.1 _) _) (f.1.set b.lead _) 0 0,?_⟩;rw[<-zS,map_set,List.map_replicate,List.map_replicate,f.2,t];rfl
  cases o:bt (tL O M B x y) (x.length+1) 0 (mc O M x y)with
  |none=>grind
  | some T=>
   rw[o]at e;obtain⟨G,I⟩:=fh (VB:=bG (bG (bG V))) (H:=List.map (List.map (List.map h))) (g:=tL P (mapM h M) (B.map (List.map (List.map h))) x y) (λT i n a e=>by
    unfold tL at e⊢;refine fh (VB:=bG (bG (bG V))) (H:=List.map (List.map (List.map h))) (λT j n a e=>?_) _ _ _ _ a e;unfold r7 at e⊢;rw[B0]
    cases c:ic O (eF T i j) B with
    |none=>rw[c]at e;cases e
    | some v=>
     rw[c]at e;obtain⟨q,F⟩:=Og H (Jl a i j) A c;rw[F];dsimp only at e⊢;rw[zS];refine fh (VB:=bG (bG (bG V))) (H:=List.map (List.map (List.map h))) (λT k n a e=>?_) _ _ _ _ (EZ a q i j) e;unfold qY at e⊢;split at e
     ·next g=>rw[if_pos g];obtain rfl:=oI e;exact⟨a,rfl⟩
     ·next g=>
      rw[if_neg g]
      cases d:mM O M v (cm x i (k%2)) (cm y j (k/2))with
      |none=>rw[d]at e;cases e
      | some s=>
       rw[d]at e;obtain⟨D,z⟩:=Lm H b q d;rw[z];dsimp only at e⊢;rw[B0]
       cases l:qe O (eF T (i+k%2) (j+k/2)) s with
       |none=>rw[l]at e;cases e
       |some r=>
        rw[l]at e;obtain⟨E,p⟩:=Om H (Jl a _ _) D l;rw[p];dsimp only at e⊢;obtain rfl:=oI e;exact⟨EZ a E _ _,by rw[zS]⟩) _ _ _ _ u.1 o
   grind[B0,Rr,Jl]
end
end
end Go.Num
end
section
namespace Go.Num
variable{n:Nat}
namespace aW
variable {K:Type} {S:aW K}
def dot(S:aW K)(u v:Nat->K)(n:Nat):K:=S.cq (λi=>S.mul (u i) (v i)) n
theorem PM{a:Nat->Nat->K}{c x:Nat->K}(d:∀i,i<n->S.le (S.add (c i) (S.cq (λj=>S.mul (a i j) (x j)) n)) (x i))
  (e:∀y:Nat->K,(∀i,i<n->S.le (S.add (c i) (S.cq (λj=>S.mul (a i j) (y j)) n)) (y i))->∀i,i<n->S.le (x i) (y i)):∀i,i<n->x i=qN S a n c i:=
 λi b=>S.Eo (e _ (λj _=>le_of_eq (xH a n c j).symm) i b) (yE a d b)
theorem tA{a b:Nat->Nat->K}{c d:Nat->K}(f:∀i j,i<n->j<n->a i j=b i j)(g:∀i,i<n->c i=d i):∀i,i<n->qN S a n c i=qN S b n d i:=by
 refine PM (λi e=>?_) λy h i e=>yE a (λi e=>?_) e
 all_goals grind[le_of_eq,xH,aw]
theorem abJ(a:Nat->Nat->K)(n:Nat)(c d:Nat->K)(i:Nat):qN S a n (λi=>S.add (c i) (d i)) i=S.add (qN S a n c i) (qN S a n d i):=by
 unfold qN;rw[ac3];congr 1;rw[<-ir];exact aw λj _=>S.mul_add _ _ _
theorem abK(a:Nat->Nat->K)(n:Nat)(k:K)(c:Nat->K)(i:Nat):qN S a n (λi=>S.mul k (c i)) i=S.mul k (qN S a n c i):=by
 unfold qN;rw[S.mul_add];congr 1;rw[<-sE];refine aw λj _=>?_;rw[<-S.mul_assoc,S.mul_comm (elim S a n i j),S.mul_assoc]
end aW
end Go.Num
end
section
namespace Go.Num
variable{p:List Int}
namespace aW
variable {K:Type} {S:aW K}
def fG{b:Type}(S:aW K)(f:b->K):List b->K
 |[]=>S.zero
 |a::l=>S.add (f a) (fG S f l)
theorem ei{b:Type}{f g:b->K}:∀{l:List b},(∀a∈l,f a=g a)->fG S f l=fG S g l
 |[],_=>rfl
 |a::l,h=>by
  show S.add _ _=S.add _ _;rw[h a (mem_cons_self ..),ei λx c=>h x (List.mem_cons_of_mem _ c)]
theorem GJ{b:Type}(f g:b->K):∀l:List b,fG S (λa=>S.add (f a) (g a)) l=S.add (fG S f l) (fG S g l)
 |[]=>(S.zero_add _).symm
 |a::l=>by
  show S.add _ (fG S _ l)=S.add (S.add _ _) (S.add _ _);rw[GJ f g l,ac3]
theorem xM{b:Type}(c:K)(f:b->K):∀l:List b,fG S (λa=>S.mul c (f a)) l=S.mul c (fG S f l)
 |[]=>(mul_zero c).symm
 |a::l=>by
  show S.add _ (fG S _ l)=S.mul c (S.add _ _);rw[xM c f l,S.mul_add]
theorem BH{c:Type}(f:c->K):∀l b:List c,fG S f (l++b)=S.add (fG S f l) (fG S f b)
 |[],b=>(S.zero_add _).symm
 |a::l,b=>by
  show S.add _ (fG S f (l++b))=S.add (S.add _ _) _;rw[BH f l b,S.add_assoc]
theorem tB{a c:Type}(g:c->a)(f:a->K):∀l:List c,fG S f (l.map g)=fG S (λb=>f (g b)) l
 |[]=>rfl
 |b::l=>by
  show S.add _ (fG S f (l.map g))=S.add _ _;rw[tB g f l]
theorem pn{b:Type}:∀l:List b,fG S (λ_=>S.zero) l=S.zero
 |[]=>rfl
 |a::l=>by
  show S.add _ (fG S _ l)=_;rw[pn l,S.zero_add]
end aW
structure sL(K:Type) where
 i:Int
 o:Int
 w:K
 t:Nat
structure bp(K:Type) where
 n:Nat
 fin:Nat->K
 arcs:Nat->List (sL K)
def ek(s:Int)(x:List Int):Option (List Int):=if s=0 then some x else match x with
 |[]=>none
 |c::r=>if c=s then some r else none
namespace bp
open aW
variable {K:Type} (S:aW K) (M:bp K)
def D4(q p:Nat):K:=fG S (λa=>if a.i=0/\a.o=0/\a.t=p then a.w else S.zero) (M.arcs q)
def go(W:List Int->List Int->Nat->K)(x y:List Int)(a:sL K):K:=if a.i=0/\a.o=0 then S.zero else match ek a.i x,ek a.o y with
 |some c,some b=>S.mul a.w (W c b a.t)
 |_,_=>S.zero
def tail(W:List Int->List Int->Nat->K)(x y:List Int)(q:Nat):K:=S.add (if x=[]/\y=[]then M.fin q else S.zero) (fG S (go S W x y) (M.arcs q))
def KN:Nat->List Int->List Int->Nat->K
 |0,x,y=>qN S (D4 S M) M.n (tail S M (λ_ _ _=>S.zero) x y)
 |f+1,x,y=>qN S (D4 S M) M.n (tail S M (KN f) x y)
def val(x y:List Int):Nat->K:=KN S M (x.length+y.length) x y
variable {S M}
theorem QC{s:Int}{x:List Int}(h:ek s x=some p):p.length+(if s=0 then 0 else 1)=x.length:=by
 unfold ek at h
 grind
theorem go_congr{W d:List Int->List Int->Nat->K}{x:List Int}{a:sL K}(h:∀c b,c.length+b.length<x.length+p.length->W c b a.t=d c b a.t):go S W x p a=go S d x p a:=by
 unfold go;split
 ·rfl
 ·next g=>
  cases e:ek a.i x with
  |none=>rfl
  | some c=>
   cases f:ek a.o p with
   |none=>rfl
   |some b=>
    dsimp only;have i:=QC e;have j:=QC f
    grind
theorem vw{W W':List Int->List Int->Nat->K}{x:List Int}(h:∀b a,b.length+a.length<x.length+p.length->W b a=W' b a):tail S M W x p=tail S M W' x p:=by grind[ei,go_congr,tail]
theorem KO:∀{f g:Nat}{x y:List Int},x.length+y.length<=f->x.length+y.length<=g->KN S M f x y=KN S M g x y
 |0,0,_,_,_,_=>rfl
 |0,g+1,x,y,h,_=>by grind[vw,KN]
 |f+1,0,x,y,_,h=>by grind[vw,KN]
 |f+1,g+1,x,y,c,e=>by
  show qN S _ _ (tail S M _ x y)=qN S _ _ (tail S M _ x y);rw[vw (W:=KN S M f) (W':=KN S M g) λd a b=>KO (by omega) (by omega)]
theorem C1(x y:List Int):val S M x y=qN S (D4 S M) M.n (tail S M (val S M) x y):=by
 have h:val S M x y=KN S M (x.length+y.length+1) x y:=KO (Nat.le_refl _) (Nat.le_succ _);rw[h];show qN S _ _ (tail S M _ x y)=_;rw[vw (W':=val S M) λc a b=>KO (by omega) (Nat.le_refl _)]
end bp
end Go.Num
end
section
namespace Go.Num
variable{n:Nat}
variable{m:Nat}
namespace aW
variable {K:Type} {S:aW K}
theorem I8{f:Nat->K}(h:∀i,i<n->f i=S.zero):S.cq f n=S.zero:=by grind[aw,dH]
theorem vu(f:Nat->K){a m n:Nat}(h:a+m<=n):S.cq (λj=>if a<=j/\j<a+m then f j else S.zero) n=S.cq (λp=>f (a+p)) m:=by
 rw[qO a (by omega:a<=n),I8 (λi b=>by rw[if_neg (by omega)]),S.zero_add];rw[qO m (by omega:m<=n-a)];rw[aw (f:=λi=>if a<=a+i/\a+i<a+m then f (a+i)else S.zero) (g:=λp=>f (a+p)) (n:=m) λi b=>by rw[if_pos (by omega)]];simp[I8,if_neg,add_zero]
theorem abT(f:Nat->K){a m n:Nat}(h:a+m<=n):S.cq f n=S.add (S.cq (λp=>f (a+p)) m) (S.cq (λj=>if a<=j/\j<a+m then S.zero else f j) n):=by
 rw[<-vu f h,<-ir];refine aw λj _=>?_;by_cases c:a<=j/\j<a+m
 ·rw[if_pos c,if_pos c,add_zero]
 ·rw[if_neg c,if_neg c,S.zero_add]
theorem Xf{a a':Nat->Nat->K}{low:Nat}{c c':Nat->K}(h:low+m<=n)(w:∀q p,q<m->p<m->a (low+q) (low+p)=a' q p)
  (s:∀q,q<m->c' q=S.add (c (low+q)) (S.cq (λj=>if low<=j/\j<low+m then S.zero else S.mul (a (low+q) j) (qN S a n c j)) n)):∀q,q<m->qN S a n c (low+q)=qN S a' m c' q:=by
 have d:∀(y:Nat->K) q,q<m->S.add (c (low+q)) (S.cq (λj=>S.mul (a (low+q) j) (y j)) n)=S.add (S.add (c (low+q)) (S.cq (λj=>if low<=j/\j<low+m then S.zero else S.mul (a (low+q) j) (y j)) n)) (S.cq (λp=>S.mul (a' q p) (y (low+p))) m):=λy q b=>by
  rw[abT (λj=>S.mul (a (low+q) j) (y j)) h,S.add_assoc];congr 1;rw[S.add_comm]
  grind[aw]
 have g:∀q,q<m->S.le (qN S a' m c' q) (qN S a n c (low+q)):=λq b=>by
  refine yE a' (n:=m) (c:=c') (x:=λq=>qN S a n c (low+q)) (λi k=>?_) b;have u:=d (qN S a n c) i k
  grind[xH,le_of_eq]
 let Y:Nat->K:=λj=>if low<=j/\j<low+m then qN S a' m c' (j-low)else qN S a n c j
 have r:∀j,S.le (Y j) (qN S a n c j):=λj=>by
  by_cases e:low<=j/\j<low+m
  ·grind
  ·show S.le (if _ then _ else _) _;rw[if_neg e];exact S.le_refl _
 intro q b;refine S.Eo ?_ (g q b);have v:=yE (S:=S) a (n:=n) (c:=c) (x:=Y) (λi k=>?_) (i:=low+q) (by omega)
 ·grind
 ·by_cases e:low<=i/\i<low+m
  ·obtain⟨p,rfl⟩:∃p,i=low+p:=⟨i-low,by omega⟩
   have o:p<m:=by omega
   have f:Y (low+p)=qN S a' m c' p:=by
    show(if _ then _ else _)=_;rw[if_pos e,show low+p-low=p by omega]
   rw[d Y p o,f];refine le_of_eq ?_
   conv=>rhs;rw[xH,s p o]
   congr 1
   ·grind
   ·refine aw λl t=>?_
    grind
  ·have f:Y i=qN S a n c i:=by
    show(if _ then _ else _)=_;rw[if_neg e]
   rw[f]
   conv=>rhs;rw[xH]
   exact S.zW (S.le_refl _) (YG λj _=>S.J1 _ (r j))
end aW
end Go.Num
end
section
namespace Go.Num
open aW
variable{p:List Int}
section
variable {K:Type} {S:aW K}
def Dk{K:Type}(low:Nat)(a:sL K):sL K:=⟨a.i,a.o,a.w,low+a.t⟩
def UD{K:Type}(t:Nat):Option K->List (sL K)
 |none=>[]
 |some w=>[⟨0,0,w,t⟩]
structure lE(C A:bp K)(low:Nat)(lv:Nat->Option K)(t:Nat):Prop where
 fit:low+A.n<=C.n
 out:t<C.n/\(t<low\/low+A.n<=t)
 tgt:∀q,q<A.n->∀a∈A.arcs q,a.t<A.n
 arcs:∀q,q<A.n->C.arcs (low+q)=(A.arcs q).map (Dk low)++UD t (lv q)
def zk(S:aW K)(o:Option K):K:=o.getD S.zero
def emp(S:aW K)(x y:List Int)(k:K):K:=if x=[]/\y=[]then k else S.zero
section
variable {C A:bp K} {low t:Nat} {lv:Nat->Option K}
theorem zT(F:sL K->K)(t:Nat)(o:Option K):fG S F (UD t o)=match o with|none=>S.zero|some w=>F ⟨0,0,w,t⟩:=by
 cases o with
 |none=>rfl
 |some w=>exact add_zero _
theorem lE.ad4(b:lE C A low lv t){q p:Nat}(d:q<A.n)(e:p<A.n):bp.D4 S C (low+q) (low+p)=bp.D4 S A q p:=by
 unfold bp.D4;rw[b.arcs q d,BH,tB,zT];have c:fG S (λa=>if(Dk low a).i=0/\(Dk low a).o=0/\(Dk low a).t=low+p then(Dk low a).w else S.zero) (A.arcs q)=fG S (λa=>if a.i=0/\a.o=0/\a.t=p then a.w else S.zero) (A.arcs q):=ei λa _=>by
  show(if a.i=0/\a.o=0/\low+a.t=low+p then a.w else S.zero)=_
  grind
 rw[c]
 cases lv q with
 |none=>exact add_zero _
 |some w=>
  dsimp only;rw[if_neg (by have:=b.out;omega),add_zero]
theorem lE.abH(b:lE C A low lv t){q j:Nat}(c:q<A.n)(e:¬(low<=j/\j<low+A.n)):bp.D4 S C (low+q) j=if t=j then zk S (lv q)else S.zero:=by
 unfold bp.D4;rw[b.arcs q c,BH,tB,zT];rw[ei (g:=λ_=>S.zero) λa d=>?_,pn,S.zero_add]
 ·grind[zk]
 ·show(if a.i=0/\a.o=0/\low+a.t=j then a.w else S.zero)=S.zero;rw[if_neg];have:=b.tgt q c a d;omega
theorem lE.val(b:lE C A low lv t)(x y:List Int){q:Nat}(d:q<A.n):bp.val S C x y (low+q)=qN S (bp.D4 S A) A.n (λq=>S.add (S.add (emp S x y (C.fin (low+q))) (fG S (bp.go S (λh f p=>bp.val S C h f (low+p)) x y) (A.arcs q))) (S.mul (zk S (lv q)) (bp.val S C x y t))) q:=by
 have i:=bp.C1 (S:=S) (M:=C) x y;have l:=Xf (S:=S) (a:=bp.D4 S C) (a':=bp.D4 S A) (n:=C.n) (m:=A.n) (low:=low) (c:=bp.tail S C (bp.val S C) x y) (c':=λq=>S.add (S.add (emp S x y (C.fin (low+q))) (fG S (bp.go S (λh f p=>bp.val S C h f (low+p)) x y) (A.arcs q))) (S.mul (zk S (lv q)) (bp.val S C x y t))) b.fit (λq p d k=>b.ad4 d k) (λq d=>by
  congr 1
  ·unfold bp.tail emp;congr 1;rw[b.arcs q d,BH,tB,zT];have:(match lv q with|none=>S.zero|some w=>bp.go S (bp.val S C) x y ⟨0,0,w,t⟩)=S.zero:=by
    cases lv q with
    |none=>rfl
    |some w=>exact if_pos ⟨rfl,rfl⟩
   rw[this,add_zero];rfl
  ·rw[i];rw[aw (g:=λj=>if t<=j/\j<t+1 then S.mul (zk S (lv q)) (qN S (bp.D4 S C) C.n (bp.tail S C (bp.val S C) x y) j)else S.zero) λj _=>by
    by_cases c:low<=j/\j<low+A.n
    ·rw[if_pos c,if_neg (by have:=b.out;omega)]
    ·rw[if_neg c,b.abH d c];by_cases e:t=j
     ·rw[if_pos e,if_pos (by omega)]
     ·rw[if_neg e,if_neg (by omega),S.zero_mul]]
   rw[vu (λj=>S.mul (zk S (lv q)) (qN S (bp.D4 S C) C.n (bp.tail S C (bp.val S C) x y) j)) (by have:=b.out;omega:t+1<=C.n)];exact(S.zero_add _).symm) q d
 simp_all
theorem lE.kL(b:lE C A low lv t)(e:∀q,q<A.n->lv q=none)(d:∀q,q<A.n->C.fin (low+q)=A.fin q):∀(n:Nat)(x y:List Int),x.length+y.length<=n->∀q,q<A.n->bp.val S C x y (low+q)=bp.val S A x y q
 |n,x,y,j,q,c=>by
  rw[b.val x y c,bp.C1 (S:=S) (M:=A) x y];refine tA (λ_ _ _ _=>rfl) (λq c=>?_) q c;rw[e q c,d q c];show S.add _ (S.mul S.zero _)=_;rw[S.zero_mul,add_zero];unfold bp.tail emp;congr 1;refine ei λa h=>bp.go_congr λg f i=>?_
  cases n with
  |zero=>omega
  |succ n=>exact b.kL e d n g f (by omega) _ (b.tgt q c a h)
end
def fo(S:aW K)(F:List Int->List Int->List Int->List Int->K)(x y:List Int):K:=S.cq (λi=>S.cq (λj=>F (x.take i) (y.take j) (x.drop i) (y.drop j)) (y.length+1)) (x.length+1)
def conv(S:aW K)(A:bp K)(V:List Int->List Int->K)(x y:List Int)(q:Nat):K:=fo S (λd c b a=>S.mul (bp.val S A d c q) (V b a)) x y
theorem nO{F G:List Int->List Int->List Int->List Int->K}{x:List Int}(h:∀i j,i<=x.length->j<=p.length->F (x.take i) (p.take j) (x.drop i) (p.drop j)=G (x.take i) (p.take j) (x.drop i) (p.drop j)):fo S F x p=fo S G x p:=aw λi a=>aw λj b=>h i j (by omega) (by omega)
theorem zL(F G:List Int->List Int->List Int->List Int->K)(x y:List Int):fo S (λa b c d=>S.add (F a b c d) (G a b c d)) x y=S.add (fo S F x y) (fo S G x y):=by grind[ir,aw,fo]
theorem EP(k:K)(F:List Int->List Int->List Int->List Int->K)(x y:List Int):fo S (λa b c d=>S.mul k (F a b c d)) x y=S.mul k (fo S F x y):=by grind[sE,fo]
theorem tQ(f:Nat->K)(n:Nat):S.cq f (n+1)=S.add (f 0) (S.cq (λi=>f (i+1)) n):=by
 rw[qO (S:=S) 1 (n:=n+1) (by omega)];show S.add (S.add S.zero (f 0)) (S.cq _ n)=_;rw[S.zero_add]
 grind
theorem Df{F:List Int->List Int->List Int->List Int->K}{x:List Int}(h:∀i j,i<=x.length->j<=p.length->F (x.take i) (p.take j) (x.drop i) (p.drop j)=S.zero):fo S F x p=S.zero:=by grind[aw,dH,fo]
theorem N9(F:List Int->List Int->List Int->List Int->K)(x y:List Int):fo S (λa b c d=>if a=[]/\b=[]then F a b c d else S.zero) x y=F [] [] x y:=by
 unfold fo;rw[tQ,tQ];have e:∀i j,i<x.length->j<y.length+1->(if x.take (i+1)=[]/\y.take j=[]then F (x.take (i+1)) (y.take j) (x.drop (i+1)) (y.drop j)else S.zero)=S.zero:=λi j f _=>if_neg λh=>by
  have:=congrArg List.length h.1;rw[length_take]at this;have:min (i+1) x.length=0:=this;omega
 rw[aw (n:=x.length) (g:=λ_=>S.zero) λi f=>(aw λj k=>e i j f k).trans (dH _),dH,add_zero];rw[aw (n:=y.length) (g:=λ_=>S.zero) λj k=>if_neg λh=>by
  have:=congrArg List.length h.2;rw[length_take]at this;have:min (j+1) y.length=0:=this;omega]
 simp_all[dH,add_zero]
theorem EU{s:Int}(a:s≠0)(x:List Int)(i:Nat):ek s (x.take (i+1))=(ek s x).map (·.take i):=by
 unfold ek
 grind
theorem H0{s:Int}(x:List Int)(G:List Int->List Int->K):S.cq (λi=>match ek s (x.take i)with|some b=>G b (x.drop i)|none=>S.zero) (x.length+1)=match ek s x with|some b=>S.cq (λi=>G (b.take i) (b.drop i)) (b.length+1)|none=>S.zero:=by
 by_cases a:s=0
 ·simp_all[ek]
 ·rw[tQ];have f:ek s (x.take 0)=none:=by unfold ek;rw[if_neg a];rfl
  rw[f];dsimp only;rw[S.zero_add]
  cases x with
  |nil=>unfold ek;rw[if_neg a];rfl
  |cons c r=>
   have e:ek s (c::r)=if c=s then some r else none:=by unfold ek;rw[if_neg a]
   rw[e];by_cases d:c=s
   ·rw[if_pos d];exact aw λi _=>by
     rw[EU a,e,if_pos d];rfl
   ·rw[if_neg d];dsimp only;rw[aw (g:=λ_=>S.zero) λi _=>by rw[EU a,e,if_neg d];rfl,dH]
theorem Rp(A:bp K)(V:List Int->List Int->K)(x y:List Int)(a:sL K):fo S (λd e k f=>S.mul (bp.go S (bp.val S A) d e a) (V k f)) x y=bp.go S (conv S A V) x y a:=by
 unfold bp.go;by_cases c:a.i=0/\a.o=0
 ·rw[if_pos c];exact Df λi j _ _=>by rw[if_pos c,S.zero_mul]
 ·rw[if_neg c];unfold fo;have l:∀i,S.cq (λj=>S.mul (if a.i=0/\a.o=0 then S.zero else match ek a.i (x.take i),ek a.o (y.take j)with|some m,some b=>S.mul a.w (bp.val S A m b a.t)|_,_=>S.zero) (V (x.drop i) (y.drop j))) (y.length+1) =
    (match ek a.i (x.take i)with|some d=>(match ek a.o y with|some b=>S.cq (λj=>S.mul a.w (S.mul (bp.val S A d (b.take j) a.t) (V (x.drop i) (b.drop j)))) (b.length+1)|none=>S.zero)|none=>S.zero):=λi=>by
   cases h:ek a.i (x.take i)with
   |none=>
    dsimp only;rw[aw (g:=λ_=>S.zero) λj _=>by rw[if_neg c,S.zero_mul],dH]
   |some d=>
    dsimp only;have:=H0 (S:=S) (s:=a.o) y (λe f=>S.mul a.w (S.mul (bp.val S A d e a.t) (V (x.drop i) f)));rw[<-this];refine aw λj _=>?_;rw[if_neg c]
    cases ek a.o (y.take j)with
    |none=>exact S.zero_mul _
    |some e=>exact S.mul_assoc _ _ _
  refine(aw λi _=>l i).trans ?_;have:=H0 (S:=S) (s:=a.i) x (λd k=>match ek a.o y with|some b=>S.cq (λj=>S.mul a.w (S.mul (bp.val S A d (b.take j) a.t) (V k (b.drop j)))) (b.length+1)|none=>S.zero)
  grind[dH,sE,aw,conv,fo]
theorem B6(a:Nat->Nat->K)(n:Nat)(c:Nat->Nat->K)(i:Nat):∀m,qN S a n (λq=>S.cq (λk=>c k q) m) i=S.cq (λk=>qN S a n (c k) i) m
 |0=>by
  show qN S a n (λ_=>S.zero) i=S.zero;unfold qN;rw[aw (g:=λ_=>S.zero) λj _=>mul_zero _,dH,S.zero_add]
 |m+1=>by
  show qN S a n (λq=>S.add (S.cq (λk=>c k q) m) (c m q)) i=S.add _ _;rw[abJ,B6 a n c i m]
theorem De{f:Type}(F:f->List Int->List Int->List Int->List Int->K)(x y:List Int):∀l:List f,fo S (λa b c d=>fG S (λe=>F e a b c d) l) x y=fG S (λe=>fo S (F e) x y) l
 |[]=>Df λ_ _ _ _=>rfl
 |e::l=>by
  show fo S (λa b c d=>S.add (F e a b c d) (fG S (λe=>F e a b c d) l)) x y=S.add _ _;rw[zL,De F x y l]
theorem Ro(A:bp K)(V:List Int->List Int->K)(x y:List Int){q:Nat}(f:q<A.n):conv S A V x y q=qN S (bp.D4 S A) A.n (λq=>S.add (S.mul (A.fin q) (V x y)) (fG S (bp.go S (conv S A V) x y) (A.arcs q))) q:=by
 have g:conv S A V x y q=qN S (bp.D4 S A) A.n (λq=>fo S (λe d c b=>S.mul (bp.tail S A (bp.val S A) e d q) (V c b)) x y) q:=by
  unfold fo;rw[B6];unfold conv fo
  refine aw λi _=>?_;rw[B6];refine aw λj _=>?_;dsimp only;rw[bp.C1 (S:=S) (M:=A),S.mul_comm,<-abK];exact tA (λ_ _ _ _=>rfl) (λq _=>S.mul_comm _ _) q f
 rw[g];refine tA (λ_ _ _ _=>rfl) (λq _=>?_) q f;have h:fo S (λe d c b=>S.mul (bp.tail S A (bp.val S A) e d q) (V c b)) x y=S.add (fo S (λe d c b=>if e=[]/\d=[]then S.mul (A.fin q) (V c b)else S.zero) x y) (fo S (λe d c b=>fG S (λa=>S.mul (bp.go S (bp.val S A) e d a) (V c b)) (A.arcs q)) x y):=by
  rw[<-zL];refine nO λi j _ _=>?_;unfold bp.tail;rw[add_mul];congr 1
  ·split
   ·rfl
   ·exact S.zero_mul _
  ·rw[S.mul_comm,<-xM];exact ei λa _=>S.mul_comm _ _
 rw[h,N9 (λ_ _ c b=>S.mul (A.fin q) (V c b)),De (λa e d c b=>S.mul (bp.go S (bp.val S A) e d a) (V c b))]
 grind[ei,Rp]
theorem lE.link{C A:bp K}{low t:Nat}{lv:Nat->Option K}(b:lE C A low lv t)(e:∀q,q<A.n->zk S (lv q)=A.fin q)(d:∀q,q<A.n->C.fin (low+q)=S.zero):∀(n:Nat)(x y:List Int),x.length+y.length<=n->∀q,q<A.n->bp.val S C x y (low+q)=conv S A (λx y=>bp.val S C x y t) x y q
 |n,x,y,j,q,c=>by
  rw[b.val x y c,Ro A _ x y c];refine tA (λ_ _ _ _=>rfl) (λq c=>?_) q c;rw[e q c,d q c];have:emp S x y S.zero=S.zero:=by unfold emp;split<;>rfl
  rw[this,S.zero_add,S.add_comm];congr 1;refine ei λa h=>bp.go_congr λg f i=>?_
  cases n with
  |zero=>omega
  |succ n=>exact b.link e d n g f (by omega) _ (b.tgt q c a h)
end
variable{n:Nat}
section
variable {K:Type} {S:aW K}
theorem oe{C:bp K}{q:Nat}(s:q<C.n)(d:∀a∈C.arcs q,a.i=0/\a.o=0/\a.t<C.n)(x y:List Int):bp.val S C x y q=S.add (emp S x y (C.fin q)) (fG S (λa=>S.mul a.w (bp.val S C x y a.t)) (C.arcs q)):=by
 have f:∀q,bp.val S C x y q=qN S (bp.D4 S C) C.n (bp.tail S C (bp.val S C) x y) q:=λq=>by rw[bp.C1 (S:=S) (M:=C) x y]
 rw[f,xH];have j:bp.tail S C (bp.val S C) x y q=emp S x y (C.fin q):=by
  unfold bp.tail emp;rw[ei (g:=λ_=>S.zero) λa h=>?_,pn,add_zero];unfold bp.go;rw[if_pos ⟨(d a h).1,(d a h).2.1⟩]
 rw[j];congr 1;have o:∀l,S.mul (bp.D4 S C q l) (qN S (bp.D4 S C) C.n (bp.tail S C (bp.val S C) x y) l)=fG S (λa=>if a.t=l then S.mul a.w (bp.val S C x y l)else S.zero) (C.arcs q):=λl=>by
  show S.mul (fG S (λa=>if a.i=0/\a.o=0/\a.t=l then a.w else S.zero) (C.arcs q)) _=_;rw[S.mul_comm,<-xM];refine ei λa h=>?_;obtain⟨k,n,_⟩:=d a h;by_cases c:a.t=l
  ·rw[if_pos ⟨k,n,c⟩,if_pos c,S.mul_comm,<-f]
  ·rw[if_neg λe=>c e.2.2,if_neg c,mul_zero]
 rw[aw λl _=>o l];have r:∀l:List (sL K),(∀a∈l,a.t<C.n)->S.cq (λp=>fG S (λa=>if a.t=p then S.mul a.w (bp.val S C x y p)else S.zero) l) C.n=fG S (λa=>S.mul a.w (bp.val S C x y a.t)) l:=λl=>by
  induction l with
  |nil=>intro _;exact dH _
  | cons a l m=>
   intro h;show S.cq (λp=>S.add (if a.t=p then S.mul a.w (bp.val S C x y p)else S.zero) (fG S _ l)) C.n=S.add _ _;rw[ir,m λb i=>h b (List.mem_cons_of_mem _ i)];congr 1;have t:=h a (mem_cons_self ..);rw[aw (g:=λp=>if a.t<=p/\p<a.t+1 then S.mul a.w (bp.val S C x y p)else S.zero) λp _=>by
    by_cases c:a.t=p
    ·rw[if_pos c,if_pos (by omega)]
    ·rw[if_neg c,if_neg (by omega)]]
   rw[vu (λp=>S.mul a.w (bp.val S C x y p)) (show a.t+1<=C.n by omega)];show S.add S.zero (S.mul a.w (bp.val S C x y (a.t+0)))=_;rw[S.zero_add,Nat.add_zero]
 grind
abbrev DN(K:Type):=List Int->List Int->K
def rW(S:aW K)(F G:DN K):DN K:=λx y=>fo S (λa b c d=>S.mul (F a b) (G c d)) x y
def unit(S:aW K):DN K:=λx y=>emp S x y S.one
theorem N7{F a G b:DN K}{x:List Int}(c:∀i j,i<=x.length->j<=p.length->F (x.take i) (p.take j)=a (x.take i) (p.take j))(d:∀i j,i<=x.length->j<=p.length->G (x.drop i) (p.drop j)=b (x.drop i) (p.drop j)):rW S F G x p=rW S a b x p:=nO λi j e f=>by grind
theorem Dl{f:Nat->K}(h:∀i,i<n->f i=S.zero):S.cq f (n+1)=f n:=by
 show S.add (S.cq f n) (f n)=_;rw[aw (g:=λ_=>S.zero) h,dH,S.zero_add]
theorem K7(F:DN K)(x y:List Int):rW S F (unit S) x y=F x y:=by
 unfold rW fo;rw[Dl,Dl]
 ·simp_all[mul_one,unit,emp]
 ·intro j b;have:unit S (x.drop x.length) (y.drop j)=S.zero:=if_neg λc=>by
   have:=congrArg List.length c.2;rw[List.length_drop]at this;have:y.length-j=0:=this;omega
  grind[mul_zero]
 ·intro i a;rw[aw (g:=λ_=>S.zero) λj _=>?_,dH];have:unit S (x.drop i) (y.drop j)=S.zero:=if_neg λc=>by
   have:=congrArg List.length c.1;rw[List.length_drop]at this;have:x.length-i=0:=this;omega
  grind[mul_zero]
theorem N6(F G H:DN K)(x y:List Int):rW S (λx y=>S.add (F x y) (G x y)) H x y=S.add (rW S F H x y) (rW S G H x y):=by grind[zL,nO,add_mul,rW]
theorem N8(k:K)(F G:DN K)(x y:List Int):rW S F (λx y=>S.mul k (G x y)) x y=S.mul k (rW S F G x y):=by
 unfold rW;rw[<-EP];exact nO λi j _ _=>by rw[<-S.mul_assoc,S.mul_comm _ k,S.mul_assoc]
end
section
variable {K:Type} {S:aW K}
section
variable {C A:bp K} {lv:Nat->Option K} {la:K} {s0:Nat}
def Od(S:aW K)(A:bp K)(la:K)(s0:Nat):DN K:=λx y=>S.mul la (bp.val S A x y s0)
theorem B2(V:DN K)(x y:List Int):S.mul la (conv S A V x y s0)=rW S (Od S A la s0) V x y:=by
 unfold conv rW Od
 rw[<-EP];exact nO λi j _ _=>(S.mul_assoc _ _ _).symm
structure tH(S:aW K)(C A:bp K)(lv:Nat->Option K)(la:K)(s0:Nat):Prop where
 b:lE C A 1 lv 0
 n:C.n=1+A.n
 lv_:∀q,q<A.n->zk S (lv q)=A.fin q
 fin:∀q,q<A.n->C.fin (1+q)=S.zero
 arcs:C.arcs 0=[⟨0,0,la,1+s0⟩]
 agL:C.fin 0=S.one
 s0:s0<A.n
theorem tH.ahi(h:tH S C A lv la s0):∀a∈C.arcs 0,a.i=0/\a.o=0/\a.t<C.n:=λa b=>by
 rw[h.arcs]at b;have:=mem_singleton.1 b;subst this;have:=h.s0;have:=h.n
 grind
theorem tH.part(h:tH S C A lv la s0)(x y:List Int){q:Nat}(a:q<A.n):bp.val S C x y (1+q)=conv S A (λx y=>bp.val S C x y 0) x y q:=h.b.link h.lv_ h.fin (x.length+y.length) x y (Nat.le_refl _) q a
theorem tH.fix(h:tH S C A lv la s0)(x y:List Int):bp.val S C x y 0=S.add (unit S x y) (rW S (Od S A la s0) (λx y=>bp.val S C x y 0) x y):=by
 rw[oe (by have:=h.n;omega) h.ahi x y,h.arcs,h.agL];show S.add _ (S.add (S.mul la (bp.val S C x y (1+s0))) S.zero)=_;rw[add_zero,h.part x y h.s0,B2];rfl
end
end
variable{A:Type}
section
variable {K:Type}
noncomputable def aq(S:aW K):sK K:=⟨S.zero,S.one,λa=>@decide (a=S.zero) (Classical.propDecidable _),λa b=>some (S.add a b),λa b=>some (S.mul a b),λa=>some (S.star a)⟩
variable {S:aW K}
def vec(S:aW K)(l:List K)(p:Nat):K:=l.getD p S.zero
theorem xZ{a:K}:(aq S).A4 a=true↔a=S.zero:=@decide_eq_true_iff (a=S.zero) (Classical.propDecidable _)
theorem yg{l:List K}{t p:Nat}(a:K)(b:t<l.length):vec S (l.set t a) p=if p=t then a else vec S l p:=by
 unfold vec
 grind
theorem te(n p:Nat):vec S (List.replicate n S.zero) p=S.zero:=by grind[vec]
theorem oS{f:List K->Nat->Option (List K)}{n:Nat}{c:Nat->Nat->K}:∀(m i:Nat)(l:List K),(∀(l:List K)(k:Nat),i<=k->k<i+m->l.length=n->∃a,f l k=some a/\a.length=n/\∀p,p<n->vec S a p=S.add (vec S l p) (c k p))->l.length=n->
  ∃a,bt f m i l=some a/\a.length=n/\∀p,p<n->vec S a p=S.add (vec S l p) (S.cq (λj=>c (i+j) p) m)
 |0,i,l,_,b=>⟨l,rfl,b,λp _=>(add_zero _).symm⟩
 |m+1,i,l,d,b=>by
  obtain⟨q,h,o,g⟩:=d l i (Nat.le_refl _) (by omega) b;obtain⟨u,r,t,s⟩:=oS m (i+1) q (λl k w v=>d l k (by omega) (by omega)) o;refine⟨u,by unfold bt;rw[h];exact r,t,λp e=>?_⟩;rw[s p e,g p e,S.add_assoc];congr 1;rw[qO (S:=S) (f:=λj=>c (i+j) p) 1 (n:=m+1) (by omega)];congr 1
  ·exact(S.zero_add _).symm
  grind
theorem re{a:Type}{f:List a->Nat->Option (List a)}{c:Nat->a}:∀(m i:Nat)(l:List a),(∀(l:List a)(k:Nat),i<=k->k<i+m->f l k=some (l++[c k]))->bt f m i l=some (l++(List.range m).map λj=>c (i+j))
 |0,i,l,_=>by simp[bt]
 |m+1,i,l,b=>by
  unfold bt;rw[b l i (Nat.le_refl _) (by omega)];show bt f m (i+1) _=_;rw[re m (i+1) _ λl k d e=>b l k (by omega) (by omega),List.range_succ_eq_map,List.map_cons,List.map_map,List.append_assoc];congr 2;show c i::_=c (i+0)::_;congr 1;exact List.map_congr_left λj _=>by grind
theorem wu{b:Type}(F:b->K)(d:b):∀l:List b,S.cq (λk=>F (l.getD k d)) l.length=fG S F l
 |[]=>rfl
 |a::l=>by
  rw[List.length_cons,qO (S:=S) 1 (n:=l.length+1) (by omega)];show S.add (S.add S.zero (F a)) _=S.add (F a) _;rw[S.zero_add,<-wu F d l]
  grind
theorem EH{l:List K}{t:Nat}(a b:K)(d:t<l.length):∃c,iB (aq S) l t a b=some c/\c.length=l.length/\∀p,vec S c p=S.add (vec S l p) (if t=p then S.mul a b else S.zero):=by
 refine⟨l.set t (S.add (vec S l t) (S.mul a b)),rfl,length_set,λp=>?_⟩;rw[yg _ d];by_cases e:t=p
 ·grind
 ·rw[if_neg λh=>e h.symm,if_neg e,add_zero]
def iN(i o:Int)(p:Nat)(a:kx K):Prop:=a.i=i/\a.o=o/\a.t=p
instance (i o:Int) (p:Nat) (a:kx K):Decidable (iN i o p a):=inferInstanceAs (Decidable (_/\_/\_))
def bO(M:ia K)(q:Nat):List (kx K):=(M.bT.getD q ew).arcs
def mJ(M:ia K):Prop:=∀s∈M.bT,∀a∈s.arcs,a.t<M.bT.length
theorem mJ.at_{M:ia K}(g:mJ M){q k:Nat}(a:k<(bO M q).length):((bO M q).getD k (cG (aq S))).t<M.bT.length:=by
 unfold bO at*;rcases wo (M:=M) q with e|e
 ·rw[e]at a;exact absurd a (Nat.not_lt_zero _)
 ·rw[gD,gE a];exact g _ e _ (getElem_mem a)
theorem UK{M:ia K}(g:mJ M)(v:List K)(i o:Int):∃l,mM (aq S) M v i o=some l/\l.length=M.bT.length/\∀p,p<M.bT.length->vec S l p=S.cq (λq=>fG S (λa=>if iN i o p a then S.mul (vec S v q) a.w else S.zero) (bO M q)) M.bT.length:=by
 obtain⟨l,y,A,w⟩:=oS (S:=S) (f:=td (aq S) M v i o) (n:=M.bT.length) (c:=λq p=>fG S (λa=>if iN i o p a then S.mul (vec S v q) a.w else S.zero) (bO M q)) M.bT.length 0 (bK (aq S) M.bT.length) (λl q _ _ b=>by
  unfold td;have t:(aq S).A4 (v.getD q (aq S).zero)=true↔vec S v q=S.zero:=xZ;by_cases r:vec S v q=S.zero
  ·rw[if_pos (t.2 r)];refine⟨l,rfl,b,λp _=>?_⟩;rw[r,ei (g:=λ_=>S.zero) λa _=>by split;exact S.zero_mul _;rfl,pn,add_zero]
  ·rw[if_neg λh=>r (t.1 h)];obtain⟨m,u,C,z⟩:=oS (S:=S) (f:=lH (aq S) i o (vec S v q) (bO M q)) (n:=M.bT.length) (c:=λk p=>if iN i o p ((bO M q).getD k (cG (aq S)))then S.mul (vec S v q) ((bO M q).getD k (cG (aq S))).w else S.zero) (bO M q).length 0 l (λl k _ F b=>by
    unfold lH;by_cases d:((bO M q).getD k (cG (aq S))).i≠i\/((bO M q).getD k (cG (aq S))).o≠o
    ·rw[if_pos d];exact⟨l,rfl,b,λp _=>by rw[if_neg λh=>d.elim (λx=>x h.1) (λx=>x h.2.1),add_zero]⟩
    ·rw[if_neg d];obtain⟨m,D,B,E⟩:=EH (S:=S) (l:=l) (vec S v q) ((bO M q).getD k (cG (aq S))).w (by rw[b];exact g.at_ (S:=S) (q:=q) (k:=k) (by omega));refine⟨m,D,by rw[B,b],λp _=>?_⟩;rw[E p];congr 1;by_cases e:((bO M q).getD k (cG (aq S))).t=p
     ·rw[if_pos e,if_pos];exact⟨Classical.byContradiction λx=>d (.inl x),Classical.byContradiction λx=>d (.inr x),e⟩
     ·rw[if_neg e,if_neg λh=>e h.2.2]) b
   refine⟨m,u,C,λp s=>?_⟩;rw[z p s];congr 1;have:=wu (S:=S) (λa=>if iN i o p a then S.mul (vec S v q) a.w else S.zero) (cG (aq S)) (bO M q);rw[<-this];exact aw λj _=>by rw[Nat.zero_add]) length_replicate
 refine⟨l,y,A,λp s=>?_⟩;rw[w p s];have:vec S (bK (aq S) M.bT.length) p=S.zero:=te _ _;rw[this,S.zero_add]
 grind
theorem oO(c:Nat->A)(d:A){n i:Nat}(h:i<n):((List.range n).map c).getD i d=c i:=by grind
theorem ZV(a b:List K):∃l,qe (aq S) a b=some l/\l.length=a.length/\∀p,p<a.length->vec S l p=S.add (vec S a p) (vec S b p):=by
 have h:=re (f:=AH (aq S) a b) (c:=λi=>S.add (vec S a i) (vec S b i)) a.length 0 [] (λl k _ _=>rfl);refine⟨_,h,by simp,λp d=>?_⟩
 simp_all[vec]
def fs(S:aW K)(M:ia K):bp K:=⟨M.bT.length,λq=>(M.bT.getD q ew).fin.getD S.zero,λq=>(bO M q).map λa=>⟨a.i,a.o,a.w,a.t⟩⟩
def B5(S:aW K)(M:ia K)(q p:Nat):K:=fG S (λa=>if iN 0 0 p a then a.w else S.zero) (bO M q)
theorem Ll(M:ia K)(q p:Nat):bp.D4 S (fs S M) q p=B5 S M q p:=by
 show fG S _ ((bO M q).map _)=_;rw[tB];rfl
theorem Jk(B:List (List K))(i j:Nat):ch (aq S) B i j=vec S (B.getD i []) j:=rfl
theorem ZS{M:ia K}(g:mJ M):∃A,bt (iK (aq S) M) M.bT.length 0 []=some A/\A.length=M.bT.length/\∀q p,q<M.bT.length->p<M.bT.length->ch (aq S) A q p=B5 S M q p:=by
 have e:∀q,∃r,bt (fL (aq S) (bO M q)) (bO M q).length 0 (bK (aq S) M.bT.length)=some r/\∀p,p<M.bT.length->vec S r p=B5 S M q p:=λq=>by
  obtain⟨o,m,y,t⟩:=oS (S:=S) (f:=fL (aq S) (bO M q)) (n:=M.bT.length) (c:=λk p=>if iN 0 0 p ((bO M q).getD k (cG (aq S)))then((bO M q).getD k (cG (aq S))).w else S.zero) (bO M q).length 0 (bK (aq S) M.bT.length) (λl k _ w i=>by
   unfold fL;by_cases d:((bO M q).getD k (cG (aq S))).i≠0\/((bO M q).getD k (cG (aq S))).o≠0
   ·rw[if_pos d];exact⟨l,rfl,i,λp _=>by rw[if_neg λh=>d.elim (λx=>x h.1) (λx=>x h.2.1),add_zero]⟩
   ·rw[if_neg d];have v:((bO M q).getD k (cG (aq S))).t<l.length:=by rw[i];exact g.at_ (S:=S) (q:=q) (k:=k) (by omega)
    refine⟨_,rfl,by rw[length_set,i],λp _=>?_⟩;have:=yg (S:=S) (p:=p) (S.add (vec S l ((bO M q).getD k (cG (aq S))).t) ((bO M q).getD k (cG (aq S))).w) v;refine this.trans ?_;by_cases b:p=((bO M q).getD k (cG (aq S))).t
    ·rw[if_pos b,if_pos,b];exact⟨Classical.byContradiction λx=>d (.inl x),Classical.byContradiction λx=>d (.inr x),b.symm⟩
    ·rw[if_neg b,if_neg λh=>b h.2.2.symm,add_zero]) length_replicate
  refine⟨o,m,λp b=>?_⟩;rw[t p b];have u:vec S (bK (aq S) M.bT.length) p=S.zero:=te _ _;rw[u,S.zero_add];have:=wu (S:=S) (λa=>if iN 0 0 p a then a.w else S.zero) (cG (aq S)) (bO M q);unfold B5;rw[<-this];exact aw λj _=>by rw[Nat.zero_add]
 have h:=re (f:=iK (aq S) M) (c:=λq=>(e q).choose) M.bT.length 0 [] (λl k _ _=>by
  unfold iK;have:=(e k).choose_spec.1;unfold bO at this;rw[this];rfl)
 refine⟨_,h,by simp,λq p s b=>?_⟩;rw[Jk,List.nil_append,oO _ _ s,Nat.zero_add]
 grind
theorem Jp(B:List (List K))(k:Nat)(a:Nat->Nat->K)(m:k<B.length)(g:∀i j,i<B.length->j<B.length->ch (aq S) B i j=elim S a k i j):∃C,gQ (aq S) B k=some C/\C.length=B.length/\∀i j,i<B.length->j<B.length->ch (aq S) C i j=elim S a (k+1) i j:=by
 have n:∀i j,i<B.length->j<B.length->∀r,df (aq S) B (S.star (ch (aq S) B k k)) k i r j=some (r++[elim S a (k+1) i j]):=λi j b d r=>by
  unfold df;have e:elim S a (k+1) i j=S.add (ch (aq S) B i j) (S.mul (S.mul (ch (aq S) B i k) (S.star (ch (aq S) B k k))) (ch (aq S) B k j)):=by
   rw[g i j b d,g i k b m,g k k m m,g k j m d];rfl
  by_cases c:((aq S).A4 (ch (aq S) B i k)||(aq S).A4 (ch (aq S) B k j))=true
  ·rw[if_pos c,e];congr 3;rw[Bool.or_eq_true,xZ,xZ]at c;rcases c with c|c
   ·rw[c,S.zero_mul,S.zero_mul,add_zero]
   grind[mul_zero,add_zero]
  ·rw[if_neg c,e];rfl
 have o:∀i,i<B.length->bt (df (aq S) B (S.star (ch (aq S) B k k)) k i) B.length 0 []=some ((List.range B.length).map λj=>elim S a (k+1) i j):=λi b=>by
  have:=re (f:=df (aq S) B (S.star (ch (aq S) B k k)) k i) (c:=λj=>elim S a (k+1) i j) B.length 0 [] (λl j _ d=>n i j b (by omega) l)
  grind
 have h:=re (f:=jJ (aq S) B (S.star (ch (aq S) B k k)) k) (c:=λi=>(List.range B.length).map λj=>elim S a (k+1) i j) B.length 0 [] (λl i _ b=>by grind[jJ]);refine⟨_,h,by simp,λi j b d=>?_⟩;rw[Jk,List.nil_append,oO _ _ b,Nat.zero_add];exact oO _ _ d
theorem Le(a:Nat->Nat->K):∀(m k:Nat)(B:List (List K)),k+m=B.length->(∀i j,i<B.length->j<B.length->ch (aq S) B i j=elim S a k i j)->∃C,bt (gQ (aq S)) m k B=some C/\C.length=B.length/\∀i j,i<B.length->j<B.length->ch (aq S) C i j=elim S a (k+m) i j
 |0,k,B,_,b=>⟨B,rfl,rfl,b⟩
 |m+1,k,B,d,b=>by
  obtain⟨C,e,f,c⟩:=Jp B k a (by omega) b;obtain⟨D,g,o,l⟩:=Le a m (k+1) C (by omega) (λi j h n=>c i j (by omega) (by omega))
  grind[bt]
theorem K8:∀(m k:Nat)(B:List (List K)),k+m=B.length->(∀i,i<B.length->(B.getD i []).length=B.length)->∃C,bt (qt (aq S)) m k B=some C/\∀i j,i<B.length->j<B.length->ch (aq S) C i j=if i=j/\k<=i then S.add S.one (ch (aq S) B i j)else ch (aq S) B i j
 |0,k,B,f,b=>⟨B,rfl,λi j a d=>by grind⟩
 | m+1,k,B,f,b=>by
  have n:k<B.length:=by omega
  obtain⟨C,g,l⟩:=K8 m (k+1) (B.set k ((B.getD k []).set k (S.add S.one (ch (aq S) B k k)))) (by rw[length_set];omega) (λi a=>by
   rw[length_set]at a;rw[gD,List.getElem?_set,length_set];by_cases e:k=i
   ·subst e;rw[if_pos rfl,if_pos a,getD_some,length_set];exact b k a
   ·rw[if_neg e,<-gD];exact b i a)
  refine⟨C,g,λi j a d=>?_⟩;rw[l i j (by rw[length_set];exact a) (by rw[length_set];exact d)];have e:ch (aq S) (B.set k ((B.getD k []).set k (S.add S.one (ch (aq S) B k k)))) i j=if i=k/\j=k then S.add S.one (ch (aq S) B k k)else ch (aq S) B i j:=by
   rw[Jk,gD,List.getElem?_set];by_cases e:k=i
   ·subst e;rw[if_pos rfl,if_pos a,getD_some,yg _ (by rw[b k a];exact a)];by_cases c:j=k
    ·rw[if_pos c,if_pos ⟨rfl,c⟩]
    ·rw[if_neg c,if_neg λh=>c h.2];rfl
   ·rw[if_neg e,<-gD,if_neg λh=>e h.1.symm];rfl
  grind
theorem E3:∀{m k:Nat}{B C:List (List K)},bt (gQ (aq S)) m k B=some C->(∀i,i<B.length->(B.getD i []).length=B.length)->∀i,i<C.length->(C.getD i []).length=C.length
 |0,k,B,C,h,y=>by obtain rfl:=oI h;omega
 | m+1,k,B,C,h,y=>by
  unfold bt at h
  cases e:gQ (aq S) B k with
  |none=>grind
  | some D=>
   rw[e]at h;refine E3 h ?_;have t:∀i r j,∃c,df (aq S) B (S.star (ch (aq S) B k k)) k i r j=some (r++[c]):=λi r j=>by
    unfold df;split
    ·exact⟨_,rfl⟩
    ·exact⟨_,rfl⟩
   have w:∀i n d (r:List K),∃b,bt (df (aq S) B (S.star (ch (aq S) B k k)) k i) n d r=some b/\b.length=r.length+n:=λi n=>by
    induction n with
    |zero=>exact λd r=>⟨r,rfl,rfl⟩
    |succ n s=>
     intro d r;obtain⟨c,t⟩:=t i r d;obtain⟨b,g,l⟩:=s (d+1) (r++[c]);exact⟨b,by unfold bt;rw[t];exact g,by rw[l];simp;omega⟩
   have o:∀n f (E:List (List K)),(∀x∈E,x.length=B.length)->∃a,bt (jJ (aq S) B (S.star (ch (aq S) B k k)) k) n f E=some a/\a.length=E.length+n/\∀x∈a,x.length=B.length:=λn=>by
    induction n with
    |zero=>exact λf E p=>⟨E,rfl,rfl,p⟩
    | succ n s=>
     intro f E p;obtain⟨b,g,l⟩:=w f B.length 0 [];obtain⟨a,u,v,z⟩:=s (f+1) (E++[b]) (λx q=>by
      rcases List.mem_append.1 q with h|h
      ·exact p x h
      ·rw[mem_singleton.1 h,l];simp)
     exact⟨a,by unfold bt jJ;rw[g];exact u,by rw[v];simp;omega,z⟩
   obtain⟨a,g,l,u⟩:=o B.length 0 [] (λx q=>by cases q);have v:gQ (aq S) B k=some a:=g
   grind
theorem UJ{A:List (List K)}(a:∀i,i<A.length->(A.getD i []).length=A.length):∃B,mL (aq S) A=some B/\∀i j,i<A.length->j<A.length->ch (aq S) B i j=if i=j then S.add S.one (elim S (ch (aq S) A) A.length i j)else elim S (ch (aq S) A) A.length i j:=by
 obtain⟨C,b,e,d⟩:=Le (S:=S) (ch (aq S) A) A.length 0 A (Nat.zero_add _) (λi j _ _=>rfl);have c:=E3 b a;obtain⟨B,g,f⟩:=K8 (S:=S) A.length 0 C (by omega) c
 simp_all[mL]
end
section
variable {K:Type} {S:aW K}
theorem UG{v:List K}{B:List (List K)}:∃l,ic (aq S) v (some B)=some l/\l.length=v.length/\∀p,p<v.length->vec S l p=S.cq (λq=>S.mul (vec S v q) (ch (aq S) B q p)) v.length:=by
 obtain⟨l,m,r,i⟩:=oS (S:=S) (f:=λl q=>bt (gR (aq S) v B q) v.length 0 l) (n:=v.length) (c:=λq p=>S.mul (vec S v q) (ch (aq S) B q p)) v.length 0 (bK (aq S) v.length) (λl q _ _ a=>by
  obtain⟨b,h,w,o⟩:=oS (S:=S) (f:=gR (aq S) v B q) (n:=v.length) (c:=λk p=>if k=p then S.mul (vec S v q) (ch (aq S) B q k)else S.zero) v.length 0 l (λl k _ z a=>by
   unfold gR;by_cases c:((aq S).A4 (v.getD q (aq S).zero)||(aq S).A4 (ch (aq S) B q k))=true
   ·rw[if_pos c];refine⟨l,rfl,a,λp _=>?_⟩;have u:S.mul (vec S v q) (ch (aq S) B q k)=S.zero:=by
     rw[Bool.or_eq_true,xZ,xZ]at c;rcases c with c|c
     ·have c:vec S v q=S.zero:=c;rw[c,S.zero_mul]
     ·have c:ch (aq S) B q k=S.zero:=c;rw[c,mul_zero]
    rw[u];split<;>rw[add_zero]
   ·rw[if_neg c];obtain⟨b,x,s,y⟩:=EH (S:=S) (l:=l) (t:=k) (vec S v q) (ch (aq S) B q k) (by omega);exact⟨b,x,by rw[s,a],λp _=>y p⟩) a
  refine⟨b,h,w,λp d=>?_⟩;rw[o p d];congr 1;rw[aw (g:=λj=>if p<=j/\j<p+1 then S.mul (vec S v q) (ch (aq S) B q j)else S.zero) λj _=>by
   rw[Nat.zero_add];by_cases e:j=p
   ·rw[if_pos e,if_pos (by omega)]
   ·rw[if_neg e,if_neg (by omega)]]
  rw[vu (λj=>S.mul (vec S v q) (ch (aq S) B q j)) (by omega:p+1<=v.length)];exact S.zero_add _) length_replicate
 refine⟨l,m,r,λp d=>?_⟩;rw[i p d];have:vec S (bK (aq S) v.length) p=S.zero:=te _ _;rw[this,S.zero_add]
 grind
theorem ZR(M:ia K)(v:List K)(i:v.length=M.bT.length):qW (aq S) M v=some (dot S (vec S v) (fs S M).fin v.length):=by
 obtain⟨l,b,j,d⟩:=oS (S:=S) (f:=lF (aq S) M v) (n:=1) (c:=λq p=>S.mul (vec S v q) ((fs S M).fin q)) v.length 0 [S.zero] (λl q _ _ e=>by
  unfold lF;show ∃a,(match (M.bT.getD q ew).fin with|none=>some l|some f=>iB (aq S) l 0 (v.getD q (aq S).zero) f)=some a/\a.length=1/\∀p,p<1->vec S a p=S.add (vec S l p) (S.mul (vec S v q) ((M.bT.getD q ew).fin.getD S.zero))
  cases (M.bT.getD q ew).fin with
  |none=>exact⟨l,rfl,e,λp _=>by show _=S.add _ (S.mul _ S.zero);rw[mul_zero,add_zero]⟩
  |some f=>
   obtain⟨a,g,k,h⟩:=EH (S:=S) (l:=l) (t:=0) (vec S v q) f (by omega);refine⟨a,g,by omega,λp m=>?_⟩;rw[h p,if_pos (by omega)];rfl) rfl
 unfold qW;have b:bt (lF (aq S) M v) v.length 0 [(aq S).zero]=some l:=b;rw[b];show some (vec S l 0)=_;rw[d 0 (by omega)];show some (S.add S.zero _)=_;rw[S.zero_add]
 simp_all[dot]
noncomputable def Jj(S:aW K)(M:ia K)(x y:List Int)(i j q:Nat):K:=bp.val S (fs S M) (x.drop i) (y.drop j) q
def jT(S:aW K)(M:ia K)(x y:List Int)(i j q:Nat):K:=bp.tail S (fs S M) (bp.val S (fs S M)) (x.drop i) (y.drop j) q
theorem Oi{M:ia K}(g:mJ M){r:Option (List (List K))}(f:eG (aq S) M=some r):∀v:List K,v.length=M.bT.length->∃l,ic (aq S) v r=some l/\l.length=M.bT.length/\∀x y i j,dot S (vec S v) (Jj S M x y i j) M.bT.length=dot S (vec S l) (jT S M x y i j) M.bT.length:=by
 obtain⟨A,P,Q,R⟩:=ZS (S:=S) g;unfold eG at f;rw[P]at f;dsimp only at f;have O:∀x y i j,Jj S M x y i j=qN S (bp.D4 S (fs S M)) M.bT.length (jT S M x y i j):=λx y i j=>bp.C1 (S:=S) (M:=fs S M) (x.drop i) (y.drop j);split at f
 ·split at f
  ·grind
  ·have T:∀i,i<A.length->(A.getD i []).length=A.length:=by
    have L:∀(m k:Nat)(E t:List (List K)),(∀x∈E,x.length=M.bT.length)->bt (iK (aq S) M) m k E=some t->∀x∈t,x.length=M.bT.length:=λm=>by
     induction m with
     |zero=>intro k E t G e;obtain rfl:=oI e;exact G
     | succ m I=>
      intro k E t G e;unfold bt at e
      cases o:iK (aq S) M E k with
      |none=>rw[o]at e;cases e
      | some F=>
       rw[o]at e;refine I (k+1) F t ?_ e;unfold iK at o
       cases C:bt (fL (aq S) (M.bT.getD k ew).arcs) (M.bT.getD k ew).arcs.length 0 (bK (aq S) M.bT.length)with
       |none=>rw[C]at o;cases o
       | some r=>
        rw[C]at o;obtain rfl:=oI o;have f:∀(m D:Nat)(l u:List K),bt (fL (aq S) (M.bT.getD k ew).arcs) m D l=some u->u.length=l.length:=λm=>by
         induction m with
         |zero=>intro D l u e;obtain rfl:=oI e;rfl
         | succ m I=>
          intro D l u e;unfold bt at e
          cases s:fL (aq S) (M.bT.getD k ew).arcs l D with
          |none=>rw[s]at e;cases e
          |some l2=>
           rw[s]at e;rw[I _ _ _ e];unfold fL at s;split at s
           ·obtain rfl:=oI s;rfl
           ·have s:some (l.set _ _)=some l2:=s;obtain rfl:=oI s;exact length_set
        intro x H;rcases List.mem_append.1 H with h|h
        ·exact G x h
        ·rw[mem_singleton.1 h,f _ _ _ _ C];exact length_replicate
    intro i z;rw[gD,gE z,getD_some,Q];exact L _ _ _ _ (λx H=>by cases H) P _ (getElem_mem z)
   obtain⟨B,W,h5⟩:=UJ (S:=S) T;rw[W]at f;obtain rfl:=oI f;intro v N;obtain⟨l,o,C,s⟩:=UG (S:=S) (v:=v) (B:=B);refine⟨l,o,by omega,λx y i j=>?_⟩;rw[O];have U:∀q,q<M.bT.length->qN S (bp.D4 S (fs S M)) M.bT.length (jT S M x y i j) q=S.cq (λp=>S.mul (ch (aq S) B q p) (jT S M x y i j p)) M.bT.length:=λq w=>by
    have Z:=tA (S:=S) (a:=bp.D4 S (fs S M)) (b:=ch (aq S) A) (n:=M.bT.length) (c:=jT S M x y i j) (d:=jT S M x y i j) (λi j z Y=>by rw[R i j z Y,Ll]) (λ_ _=>rfl) q w;rw[Z];have X:∀p,p<M.bT.length->S.mul (ch (aq S) B q p) (jT S M x y i j p)=S.add (if q<=p/\p<q+1 then jT S M x y i j p else S.zero) (S.mul (elim S (ch (aq S) A) M.bT.length q p) (jT S M x y i j p)):=λp hp=>by
     rw[h5 q p (by omega) (by omega),Q];by_cases e:q=p
     ·rw[if_pos e,if_pos (by omega),add_mul,S.one_mul]
     ·rw[if_neg e,if_neg (by omega),S.zero_add]
    rw[aw X,ir,vu (jT S M x y i j) (by omega:q+1<=M.bT.length)];show S.add (jT S M x y i j q) _=S.add (S.add S.zero (jT S M x y i j (q+0))) _;rw[S.zero_add];rfl
   unfold dot;rw[aw λq w=>by rw[U q w]];rw[aw (g:=λq=>S.cq (λp=>S.mul (S.mul (vec S v q) (ch (aq S) B q p)) (jT S M x y i j p)) M.bT.length) λq _=>by
    rw[<-sE];exact aw λp _=>(S.mul_assoc _ _ _).symm]
   rw[BI]
   grind[aw,yJ]
 ·next J=>
  obtain rfl:=oI f;intro v N;refine⟨v,rfl,N,λx y i j=>?_⟩;unfold dot;refine aw λq w=>?_;congr 1;rw[O,xH];rw[aw (g:=λ_=>S.zero) λl _=>by
   rw[Ll];have:B5 S M q l=S.zero:=by
    unfold B5;rw[ei (g:=λ_=>S.zero) λa V=>?_,pn];rw[if_neg];rintro⟨c1,c2,_⟩;refine J ?_;unfold qU;refine List.any_eq_true.2 ⟨M.bT.getD q ew,?_,List.any_eq_true.2 ⟨a,V,by grind⟩⟩;rcases wo (M:=M) q with e|e
    ·grind
    ·exact e
   rw[this,S.zero_mul]]
  rw[dH,add_zero]
theorem ET{x:List Int}(c:∀s∈x,s≠0)(i:Nat)(s:Int)(b:Nat)(d:b<=1)(g:i+b<=x.length)(a:s=cm x i b):ek s (x.drop i)=some (x.drop (i+b)):=by
 unfold cm at a;by_cases e:b=1
 ·subst e;rw[if_pos rfl]at a;have f:x.drop i=x.getD i 0::x.drop (i+1):=by
   rw[gD,gE (by omega)];exact List.drop_eq_getElem_cons (by omega)
  have h:s≠0:=by
   rw[a,gD,gE (by omega)];exact c _ (getElem_mem _)
  simp_all[ek]
 ·rw[if_neg e]at a;obtain rfl:b=0:=by omega
  simp_all[ek]
theorem xY{x:List Int}(f:∀s∈x,s≠0){i:Nat}(g:i<=x.length){s:Int}(h:ek s (x.drop i)=some p):∃b,b<=1/\i+b<=x.length/\s=cm x i b/\p=x.drop (i+b)/\(b=0↔s=0):=by
 unfold ek at h;split at h
 ·next e=>
  obtain rfl:=oI h;exact⟨0,by omega,by omega,by simp_all[cm],rfl,⟨λ_=>e,λ_=>rfl⟩⟩
 ·next e=>
  by_cases a:i<x.length
  ·have d:x.drop i=x.getD i 0::x.drop (i+1):=by
    rw[gD,gE a];exact List.drop_eq_getElem_cons a
   rw[d]at h;dsimp only at h;split at h
   ·next c=>
    obtain rfl:=oI h;exact⟨1,by omega,by omega,by unfold cm;rw[if_pos rfl];exact c.symm,rfl,⟨λh=>by omega,λh=>absurd h e⟩⟩
   ·cases h
  grind
theorem aet{b c:Nat}{P:Prop}(a:b<=1)(f:c<=1)(d:b=0↔P)(e:c=0↔P):b=c:=by grind
noncomputable def lW(S:aW K)(M:ia K)(x y:List Int)(i j:Nat)(a:kx K)(k:Nat):K:=
 if x.length<i+k%2\/y.length<j+k/2 then S.zero else if a.i=cm x i (k%2)/\a.o=cm y j (k/2)then S.mul a.w (Jj S M x y (i+k%2) (j+k/2) a.t)else S.zero
theorem go_eq{M:ia K}{x:List Int}(m:∀s∈x,s≠0)(t:∀s∈p,s≠0){i j:Nat}(r:i<=x.length)(u:j<=p.length)(a:kx K):bp.go S (bp.val S (fs S M)) (x.drop i) (p.drop j) ⟨a.i,a.o,a.w,a.t⟩=S.cq (λk=>lW S M x p i j a (1+k)) 3:=by
 have F:∀{x:List Int}{i b:Nat},(∀s∈x,s≠0)->b<=1->i+b<=x.length->(cm x i b=0↔b=0):=λ{x i b} m L r=>by
  unfold cm
  grind
 have J:∀k,k=1\/k=2\/k=3->lW S M x p i j a k≠S.zero->i+k%2<=x.length/\j+k/2<=p.length/\a.i=cm x i (k%2)/\a.o=cm p j (k/2):=λk _ h=>by simp_all[lW]
 show(if a.i=0/\a.o=0 then S.zero else match ek a.i (x.drop i),ek a.o (p.drop j)with|some l,some g=>S.mul a.w (bp.val S (fs S M) l g a.t)|_,_=>S.zero)=S.add (S.add (S.add S.zero (lW S M x p i j a 1)) (lW S M x p i j a 2)) (lW S M x p i j a 3);rw[S.zero_add];have d:∀k,k=1\/k=2\/k=3->¬((k%2=0↔a.i=0)/\(k/2=0↔a.o=0))->lW S M x p i j a k=S.zero:=λk C N=>Classical.byContradiction λc=>by grind
 have e:∀k,k=1\/k=2\/k=3->(k%2=0↔a.i=0)->(k/2=0↔a.o=0)->lW S M x p i j a k=(match ek a.i (x.drop i),ek a.o (p.drop j)with|some l,some g=>S.mul a.w (bp.val S (fs S M) l g a.t)|_,_=>S.zero):=λk C O P=>by
  unfold lW;split
  ·next c=>
   cases n:ek a.i (x.drop i)with
   |none=>rfl
   | some l=>
    cases o:ek a.o (p.drop j)with
    |none=>rfl
    |some g=>
     obtain⟨b,G,w,H,E,y⟩:=xY m r n;obtain⟨B,D,z,v,A,I⟩:=xY t u o;omega
  ·next c=>
   split
   ·next f=>
    rw[ET m i _ _ (by omega) (by omega) f.1,ET t j _ _ (by omega) (by omega) f.2];rfl
   ·next f=>
    cases n:ek a.i (x.drop i)with
    |none=>rfl
    | some l=>
     cases o:ek a.o (p.drop j)with
     |none=>rfl
     |some g=>
      obtain⟨b,G,w,H,E,y⟩:=xY m r n;obtain⟨B,D,z,v,A,I⟩:=xY t u o
      grind
 by_cases q:a.i=0
 ·by_cases f:a.o=0
  ·rw[if_pos ⟨q,f⟩,d 1 (by omega) (by omega),d 2 (by omega) (by omega),d 3 (by omega) (by omega),S.zero_add,S.zero_add]
  ·rw[if_neg λh=>f h.2,d 1 (by omega) (by omega),e 2 (by omega) (by omega) (by omega),d 3 (by omega) (by omega),S.zero_add,add_zero]
 ·by_cases f:a.o=0
  ·rw[if_neg λh=>q h.1,e 1 (by omega) (by omega) (by omega),d 2 (by omega) (by omega),d 3 (by omega) (by omega),add_zero,add_zero]
  ·rw[if_neg λh=>q h.1,d 1 (by omega) (by omega),d 2 (by omega) (by omega),e 3 (by omega) (by omega) (by omega),S.zero_add,S.zero_add]
end
variable{i:Nat}{m:Nat}{j:Nat}
section
variable {K:Type} {S:aW K}
structure qS(M:ia K)(x y:List Int)(T:List (List (List K))):Prop where
 len:T.length=x.length+1
 row:∀i,i<=x.length->(T.getD i []).length=y.length+1
 cell:∀i j,i<=x.length->j<=y.length->(eF T i j).length=M.bT.length
theorem zM{l:List A}(a:i<l.length)(v d:A)(j:Nat):(l.set i v).getD j d=if j=i then v else l.getD j d:=by grind
section
variable {M:ia K} {x y:List Int} {T:List (List (List K))}
theorem qS.Ch(s:qS M x y T){i j:Nat}(d:i<=x.length)(f:j<=y.length)(v:List K)(a b:Nat):eF (gj T i j v) a b=if a=i/\b=j then v else eF T a b:=by
 unfold eF gj;rw[zM (by rw[s.len];omega)];by_cases e:a=i
 ·subst e;rw[if_pos rfl,zM (by rw[s.row a d];omega)];by_cases c:b=j
  ·rw[if_pos c,if_pos ⟨rfl,c⟩]
  ·rw[if_neg c,if_neg λh=>c h.2]
 grind
theorem qS.set(s:qS M x y T){i j:Nat}(d:i<=x.length)(f:j<=y.length){v:List K}(g:v.length=M.bT.length):qS M x y (gj T i j v):=by
 refine⟨by unfold gj;rw[length_set];exact s.len,λa c=>?_,λa b c e=>?_⟩
 ·unfold gj;rw[zM (by rw[s.len];omega)];split
  ·rw[length_set];exact s.row i d
  ·exact s.row a c
 ·rw[s.Ch d f];split
  ·omega
  ·exact s.cell a b c e
noncomputable def BZ(S:aW K)(M:ia K)(x y:List Int)(T:List (List (List K)))(a b:Nat):K:=dot S (vec S (eF T a b)) (Jj S M x y a b) M.bT.length
noncomputable def jG(S:aW K)(M:ia K)(x y:List Int)(T:List (List (List K)))(i j:Nat):K:=S.cq (λa=>S.cq (λb=>if i<a\/(a=i/\j<=b)then BZ S M x y T a b else S.zero) (y.length+1)) (x.length+1)
theorem tP{p q:Nat}(i:p<m)(f:q<n)(c:K):S.cq (λa=>S.cq (λb=>if a=p/\b=q then c else S.zero) n) m=c:=by
 have d:∀a,S.cq (λb=>if a=p/\b=q then c else S.zero) n=if p<=a/\a<p+1 then c else S.zero:=λa=>by
  by_cases e:a=p
  ·rw[if_pos (by omega),aw (g:=λb=>if q<=b/\b<q+1 then c else S.zero) λb _=>by grind];rw[vu (λ_=>c) (by omega:q+1<=n)];exact S.zero_add c
  ·rw[if_neg (by omega),aw (g:=λ_=>S.zero) λb _=>if_neg λh=>e h.1,dH]
 rw[aw λa _=>d a,vu (λ_=>c) (by omega:p+1<=m)];exact S.zero_add c
theorem E4(f g:Nat->Nat->K)(m n:Nat):S.cq (λa=>S.cq (λb=>S.add (f a b) (g a b)) n) m=S.add (S.cq (λa=>S.cq (f a) n) m) (S.cq (λa=>S.cq (g a) n) m):=by simp[ir]
theorem Lh(c:i<=x.length)(d:j<=y.length):jG S M x y T i j=S.add (BZ S M x y T i j) (jG S M x y T i (j+1)):=by
 unfold jG;rw[<-tP (S:=S) (p:=i) (q:=j) (m:=x.length+1) (n:=y.length+1) (by omega) (by omega) (BZ S M x y T i j),<-E4];refine aw λa _=>aw λb _=>?_;by_cases e:a=i/\b=j
 ·simp_all[if_neg,add_zero]
 ·rw[if_neg e,S.zero_add]
  grind
theorem Ru{d:List (List (List K))}{p q:Nat}(r:p<=x.length)(l:q<=y.length)(o:i<p\/(p=i/\j<=q)){c:K}(h:∀a b,a<=x.length->b<=y.length->(i<a\/(a=i/\j<=b))->BZ S M x y d a b=S.add (BZ S M x y T a b) (if a=p/\b=q then c else S.zero)):jG S M x y d i j=S.add (jG S M x y T i j) c:=by
 unfold jG;have e:=tP (S:=S) (p:=p) (q:=q) (m:=x.length+1) (n:=y.length+1) (by omega) (by omega) c
 conv=>rhs;rw[<-e]
 rw[<-E4];refine aw λa k=>aw λb f=>?_;by_cases g:i<a\/(a=i/\j<=b)
 ·grind
 ·rw[if_neg g,if_neg g,if_neg (by omega),add_zero]
theorem Lg{c:List (List (List K))}(h:∀a b,a<=x.length->b<=y.length->(i<a\/(a=i/\j<=b))->BZ S M x y c a b=BZ S M x y T a b):jG S M x y c i j=jG S M x y T i j:=by
 unfold jG;refine aw λa e=>aw λb d=>?_
 grind
theorem Of(i:Nat):jG S M x y T i (y.length+1)=jG S M x y T (i+1) 0:=by
 unfold jG;refine aw λa d=>aw λb c=>?_
 grind
theorem Rt:jG S M x y T (x.length+1) j=S.zero:=by
 unfold jG;rw[aw (g:=λ_=>S.zero) λa c=>?_,dH];rw[aw (g:=λ_=>S.zero) λb _=>if_neg (by omega),dH]
theorem Rq(u v w:Nat->K)(n:Nat):dot S (λp=>S.add (u p) (v p)) w n=S.add (dot S u w n) (dot S v w n):=by grind[ir,aw,add_mul,dot]
theorem Ld{u v w:Nat->K}(h:∀p,p<n->u p=v p):dot S u w n=dot S v w n:=aw λi a=>by grind
noncomputable def kz(S:aW K)(M:ia K)(x y:List Int)(v:List K)(i j k:Nat):K:=S.cq (λq=>S.mul (vec S v q) (fG S (λa=>lW S M x y i j a k) (bO M q))) M.bT.length
theorem Oj(g:mJ M)(v:List K){i j k:Nat}(r:¬(x.length<i+k%2\/y.length<j+k/2)){s:List K}(n:∀p,p<M.bT.length->vec S s p=S.cq (λq=>fG S (λa=>if iN (cm x i (k%2)) (cm y j (k/2)) p a then S.mul (vec S v q) a.w else S.zero) (bO M q)) M.bT.length):
  dot S (vec S s) (Jj S M x y (i+k%2) (j+k/2)) M.bT.length=kz S M x y v i j k:=by
 unfold kz dot;rw[aw (g:=λp=>S.cq (λq=>fG S (λa=>if iN (cm x i (k%2)) (cm y j (k/2)) p a then S.mul (vec S v q) (S.mul a.w (Jj S M x y (i+k%2) (j+k/2) a.t))else S.zero) (bO M q)) M.bT.length) λp t=>by
  rw[n p t,<-yJ];refine aw λq _=>?_;rw[S.mul_comm,<-xM];refine ei λa _=>?_;by_cases c:iN (cm x i (k%2)) (cm y j (k/2)) p a
  ·rw[if_pos c,if_pos c,c.2.2,S.mul_comm,S.mul_assoc]
  ·rw[if_neg c,if_neg c,mul_zero]]
 rw[BI];refine aw λq u=>?_;rw[<-xM];have e:∀l:List (kx K),(∀a∈l,a.t<M.bT.length)->S.cq (λp=>fG S (λa=>if iN (cm x i (k%2)) (cm y j (k/2)) p a then S.mul (vec S v q) (S.mul a.w (Jj S M x y (i+k%2) (j+k/2) a.t))else S.zero) l) M.bT.length=fG S (λa=>S.mul (vec S v q) (lW S M x y i j a k)) l:=λl=>by
  induction l with
  |nil=>intro _;exact dH _
  | cons a l o=>
   intro f;have d:=f a (mem_cons_self ..);show S.cq (λp=>S.add (if iN (cm x i (k%2)) (cm y j (k/2)) p a then _ else S.zero) (fG S _ l)) _=S.add _ _;rw[ir,o λb m=>f b (List.mem_cons_of_mem _ m)];congr 1;unfold lW;dsimp only;rw[if_neg r];by_cases c:a.i=cm x i (k%2)/\a.o=cm y j (k/2)
   ·rw[if_pos c,aw (g:=λp=>if a.t<=p/\p<a.t+1 then S.mul (vec S v q) (S.mul a.w (Jj S M x y (i+k%2) (j+k/2) a.t))else S.zero) λp _=>by
     by_cases e:a.t=p
     ·rw[if_pos ⟨c.1,c.2,e⟩,if_pos (by omega)]
     ·rw[if_neg λh=>e h.2.2,if_neg (by omega)]]
    rw[vu (λ_=>S.mul (vec S v q) (S.mul a.w (Jj S M x y (i+k%2) (j+k/2) a.t))) (by omega:a.t+1<=M.bT.length)];exact S.zero_add _
   ·rw[if_neg c,aw (g:=λ_=>S.zero) λp _=>if_neg λh=>c ⟨h.1,h.2.1⟩,dH,mul_zero]
 refine e _ λa d=>?_;unfold bO at d;rcases wo (M:=M) q with e|e
 ·rw[e]at d;cases d
 ·exact g _ e a d
theorem EX(g:mJ M)(s:qS M x y T){v:List K}(t:v.length=M.bT.length){i j:Nat}(A:i<=x.length)(C:j<=y.length){k:Nat}(B:k=1\/k=2\/k=3):
  ∃h,qY (aq S) M x y v i j T k=some h/\qS M x y h/\eF h i j=eF T i j/\jG S M x y h i (j+1)=S.add (jG S M x y T i (j+1)) (kz S M x y v i j k):=by
 unfold qY;by_cases c:x.length<i+k%2\/y.length<j+k/2
 ·simp_all[dH,pn,mul_zero,add_zero,kz,lW]
 ·rw[if_neg c];obtain⟨l,n,u,m⟩:=UK (S:=S) g v (cm x i (k%2)) (cm y j (k/2));rw[n];dsimp only;have f:i+k%2<=x.length:=by omega
  have d:j+k/2<=y.length:=by omega
  obtain⟨r,o,z,D⟩:=ZV (S:=S) (eF T (i+k%2) (j+k/2)) l;rw[o];dsimp only;have p:=s.cell _ _ f d;refine⟨_,rfl,s.set f d (by omega),?_,?_⟩
  ·rw[s.Ch f d,if_neg (by omega)]
  ·refine Ru f d (by omega) λa b w q _=>?_;unfold BZ;rw[s.Ch f d];by_cases e:a=i+k%2/\b=j+k/2
   ·rw[if_pos e,if_pos e,e.1,e.2,<-Oj g v c m,<-Rq]
    grind[Ld]
   ·rw[if_neg e,if_neg e,add_zero]
theorem ZT(g:mJ M)(A:∀s∈x,s≠0)(N:∀s∈y,s≠0){B:Option (List (List K))}(t:eG (aq S) M=some B)(s:qS M x y T){i j:Nat}(d:i<=x.length)(e:j<=y.length):
  ∃l,r7 (aq S) M B x y i T j=some l/\qS M x y l/\jG S M x y T i j=S.add (if i=x.length/\j=y.length then dot S (vec S (eF l i j)) (fs S M).fin M.bT.length else S.zero) (jG S M x y l i (j+1)):=by
 obtain⟨v,U,m,u⟩:=Oi g t (eF T i j) (s.cell i j d e);have F:=s.set d e m;obtain⟨Q,Y,r,J,G⟩:=EX (S:=S) g F m d e (k:=1) (.inl rfl);obtain⟨V,W,w,o,D⟩:=EX (S:=S) g r m d e (k:=2) (.inr (.inl rfl));obtain⟨n,P,C,p,L⟩:=EX (S:=S) g w m d e (k:=3) (.inr (.inr rfl));refine⟨n,?_,C,?_⟩
 ·simp_all[r7,bt]
 ·rw[Lh d e];have H:jG S M x y (gj T i j v) i (j+1)=jG S M x y T i (j+1):=Lg λa b _ _ h=>by
   unfold BZ;rw[s.Ch d e,if_neg (by omega)]
  have z:eF n i j=v:=by rw[p,o,J,s.Ch d e,if_pos ⟨rfl,rfl⟩]
  rw[L,D,G,H,z];have I:BZ S M x y T i j=S.add (if i=x.length/\j=y.length then dot S (vec S v) (fs S M).fin M.bT.length else S.zero) (S.add (S.add (kz S M x y v i j 1) (kz S M x y v i j 2)) (kz S M x y v i j 3)):=by
   unfold BZ;rw[u x y i j];have E:∀q,jT S M x y i j q=S.add (if i=x.length/\j=y.length then(fs S M).fin q else S.zero) (S.add (S.add (fG S (λa=>lW S M x y i j a 1) (bO M q)) (fG S (λa=>lW S M x y i j a 2) (bO M q))) (fG S (λa=>lW S M x y i j a 3) (bO M q))):=λq=>by
    show S.add (if x.drop i=[]/\y.drop j=[]then(fs S M).fin q else S.zero) (fG S (bp.go S (bp.val S (fs S M)) (x.drop i) (y.drop j)) ((bO M q).map λa=>⟨a.i,a.o,a.w,a.t⟩))=_;rw[tB,ei λa _=>go_eq A N d e a];congr 1
    ·by_cases c:i=x.length/\j=y.length
     ·grind
     ·rw[if_neg c,if_neg]
      grind[List.drop_eq_nil_iff]
    ·show fG S (λa=>S.add (S.add (S.add S.zero (lW S M x y i j a 1)) (lW S M x y i j a 2)) (lW S M x y i j a 3)) _=_;rw[ei (g:=λa=>S.add (S.add (lW S M x y i j a 1) (lW S M x y i j a 2)) (lW S M x y i j a 3)) λa _=>by rw[S.zero_add],GJ,GJ]
   unfold dot kz;rw[aw λq _=>by rw[E q,S.mul_add,S.mul_add,S.mul_add],ir,ir,ir];congr 1;by_cases c:i=x.length/\j=y.length
   ·grind
   ·rw[if_neg c,aw (g:=λ_=>S.zero) λq _=>by rw[if_neg c,mul_zero],dH]
  rw[I];generalize jG S M x y T i (j+1)=R;generalize kz S M x y v i j 1=X;generalize kz S M x y v i j 2=Z;generalize kz S M x y v i j 3=O;generalize (if i=x.length/\j=y.length then dot S (vec S v) (fs S M).fin M.bT.length else S.zero)=f;rw[S.add_assoc f];congr 1;rw[S.add_comm,<-S.add_assoc,<-S.add_assoc]
theorem Qo(g:mJ M)(d:∀s∈x,s≠0)(f:∀s∈y,s≠0){B:Option (List (List K))}(b:eG (aq S) M=some B){i:Nat}(e:i<=x.length):∀(m j:Nat)(T:List (List (List K))),j+m=y.length+1->qS M x y T->
  ∃a,bt (r7 (aq S) M B x y i) m j T=some a/\qS M x y a/\(0<m->jG S M x y T i j=S.add (if i=x.length then dot S (vec S (eF a x.length y.length)) (fs S M).fin M.bT.length else S.zero) (jG S M x y a (i+1) 0))
 |0,j,T,k,s=>⟨T,rfl,s,λh=>absurd h (lt_irrefl 0)⟩
 | m+1,j,T,k,s=>by
  obtain⟨l,t,p,n⟩:=ZT g d f b s e (show j<=y.length by omega);obtain⟨o,q,r,u⟩:=Qo g d f b e m (j+1) l (by omega) p;refine⟨o,by grind[bt],r,λ_=>?_⟩;rw[n];by_cases c:m=0
  ·subst c;obtain rfl:=oI q
   simp_all[Of]
  ·rw[if_neg (by omega),S.zero_add]
   grind
theorem Li(g:mJ M)(d:∀s∈x,s≠0)(e:∀s∈y,s≠0){B:Option (List (List K))}(b:eG (aq S) M=some B):∀(m i:Nat)(T:List (List (List K))),i+m=x.length+1->qS M x y T->
  ∃a,bt (tL (aq S) M B x y) m i T=some a/\qS M x y a/\(0<m->jG S M x y T i 0=dot S (vec S (eF a x.length y.length)) (fs S M).fin M.bT.length)
 |0,i,T,f,s=>⟨T,rfl,s,λh=>absurd h (lt_irrefl 0)⟩
 | m+1,i,T,f,s=>by
  obtain⟨j,q,n,k⟩:=Qo g d e b (show i<=x.length by omega) (y.length+1) 0 T (by omega) s;obtain⟨l,o,p,r⟩:=Li g d e b m (i+1) j (by omega) n;refine⟨l,by grind[bt,tL],p,λ_=>?_⟩;rw[k (by omega)];by_cases c:m=0
  ·subst c;obtain rfl:=oI o
   simp_all[Rt,add_zero]
  ·rw[if_neg (by omega),S.zero_add]
   grind
end
theorem Oo{M:ia K}{x y:List Int}(g:mJ M)(C:M.start<M.bT.length)(t:∀s∈x,s≠0)(A:∀s∈y,s≠0){w:K}(h:ft (aq S) M x y=some w):w=S.mul M.lead (bp.val S (fs S M) x y M.start):=by
 unfold ft at h
 cases k:eG (aq S) M with
 |none=>grind
 | some B=>
  rw[k]at h;dsimp only at h;have m:(bK (aq S) M.bT.length).length=M.bT.length:=length_replicate;have f:qS M x y (List.replicate (x.length+1) (List.replicate (y.length+1) (bK (aq S) M.bT.length))):=by
   have e:∀i,i<=x.length->(List.replicate (x.length+1) (List.replicate (y.length+1) (bK (aq S) M.bT.length))).getD i []=List.replicate (y.length+1) (bK (aq S) M.bT.length):=λi d=>by
    rw[gD,List.getElem?_replicate,if_pos (by omega)];rfl
   refine⟨length_replicate,λi d=>by rw[e i d];exact length_replicate,λi j d D=>?_⟩;unfold eF;rw[e i d,gD,List.getElem?_replicate,if_pos (by omega)];exact m
  have z:qS M x y (mc (aq S) M x y):=f.set (Nat.zero_le _) (Nat.zero_le _) (by rw[length_set];exact m);obtain⟨T,u,l,r⟩:=Li g t A k (x.length+1) 0 (mc (aq S) M x y) (by omega) z;rw[u]at h;dsimp only at h;rw[ZR M _ (l.cell _ _ (Nat.le_refl _) (Nat.le_refl _)),l.cell _ _ (Nat.le_refl _) (Nat.le_refl _),<-r (by omega)]at h;obtain rfl:=oI h;have o:∀a b,a<=x.length->b<=y.length->BZ S M x y (mc (aq S) M x y) a b=if a=0/\b=0 then S.mul M.lead (bp.val S (fs S M) x y M.start)else S.zero:=λa b v n=>by
   unfold BZ mc;rw[f.Ch (Nat.zero_le _) (Nat.zero_le _)];by_cases c:a=0/\b=0
   ·rw[if_pos c,if_pos c,c.1,c.2];unfold dot;rw[aw (g:=λq=>if M.start<=q/\q<M.start+1 then S.mul M.lead (bp.val S (fs S M) x y q)else S.zero) λq _=>by
     have:=yg (S:=S) (p:=q) M.lead (show M.start<(bK (aq S) M.bT.length).length by omega);rw[this];by_cases e:q=M.start
     ·rw[if_pos e,if_pos (by omega)];rfl
     ·rw[if_neg e,if_neg (by omega)];have:vec S (bK (aq S) M.bT.length) q=S.zero:=te _ _;rw[this,S.zero_mul]]
    rw[vu (λq=>S.mul M.lead (bp.val S (fs S M) x y q)) (by omega:M.start+1<=M.bT.length)];exact S.zero_add _
   ·rw[if_neg c,if_neg c];unfold dot;rw[aw (g:=λ_=>S.zero) λq _=>?_,dH];unfold eF;have e:(List.replicate (x.length+1) (List.replicate (y.length+1) (bK (aq S) M.bT.length))).getD a []=List.replicate (y.length+1) (bK (aq S) M.bT.length):=by
     rw[gD,List.getElem?_replicate,if_pos (by omega)];rfl
    rw[e,gD,List.getElem?_replicate,if_pos (by omega)];have:vec S (bK (aq S) M.bT.length) q=S.zero:=te _ _;show S.mul (vec S (bK (aq S) M.bT.length) q) _=_;rw[this,S.zero_mul]
  unfold jG;rw[aw (g:=λa=>S.cq (λb=>if a=0/\b=0 then S.mul M.lead (bp.val S (fs S M) x y M.start)else S.zero) (y.length+1)) λa v=>aw λb n=>by rw[if_pos (by omega),o a b (by omega) (by omega)]];simp[tP]
end
end Go.Num
end
section
namespace Go.Proofs.YtaaichlgdgjgjaaGreatDoor
open Go Go.Ab Go.RowKit
theorem aaK:(((Tryz.prog.funcs.toList.drop 0).take 40).all λf=>gO f)=true:=by kernel_rfl
theorem aaL:(((Tryz.prog.funcs.toList.drop 40).take 40).all λf=>gO f)=true:=by kernel_rfl
theorem aaM:(((Tryz.prog.funcs.toList.drop 80).take 40).all λf=>gO f)=true:=by kernel_rfl
theorem aaN:(((Tryz.prog.funcs.toList.drop 120).take 40).all λf=>gO f)=true:=by kernel_rfl
theorem aaO:(((Tryz.prog.funcs.toList.drop 160).take 40).all λf=>gO f)=true:=by kernel_rfl
theorem aaP:(((Tryz.prog.funcs.toList.drop 200).take 40).all λf=>gO f)=true:=by kernel_rfl
theorem aaQ:(((Tryz.prog.funcs.toList.drop 240).take 40).all λf=>gO f)=true:=by kernel_rfl
theorem Sl:Tryz.prog.funcs.toList.length=259:=by kernel_rfl
theorem VN(i:Nat)(c:Func)(h:Tryz.prog.funcs.toList[i]?=some c):gO c=true:=by
 have b:∀a,((Tryz.prog.funcs.toList.drop a).take 40).all (λf=>gO f)=true->a<=i->i<a+40->gO c=true:=λa g d e=>by
  refine all_eq_true.1 g c (List.mem_of_getElem? (i:=i-a) ?_);rw[List.getElem?_take,if_pos (by omega),List.getElem?_drop,show a+(i-a)=i by omega];exact h
 have j:i<259:=by
  have:=(List.getElem?_eq_some_iff.1 h).1;rw[Sl]at this;exact this
 by_cases m:i<40
 ·exact b 0 aaK (by omega) (by omega)
 by_cases d:i<80
 ·exact b 40 aaL (by omega) (by omega)
 by_cases e:i<120
 ·exact b 80 aaM (by omega) (by omega)
 by_cases k:i<160
 ·exact b 120 aaN (by omega) (by omega)
 by_cases l:i<200
 ·exact b 160 aaO (by omega) (by omega)
 by_cases n:i<240
 ·exact b 200 aaP (by omega) (by omega)
 exact b 240 aaQ (by omega) (by omega)
theorem SQ:(Tryz.prog.funcs.toList.all λf=> !(f.name == "runtime.NumGoroutine"))=true:=by kernel_rfl
theorem Rg:Jx Tryz.prog:={
 names:=λ_ a h=>by
  have b:a∈Tryz.prog.funcs.toList:=by
   rw[<-Array.getElem?_toList]at h;exact List.mem_of_getElem? h
  have:=all_eq_true.1 SQ a b;simpa using this
 acF:=λf a h=>VN f a (by rw[Array.getElem?_toList];exact h) }
def PI:Code->Code
 |.seq a _=>a
 |c=>c
def KC:Code->Code
 |.seq _ b=>b
 |c=>c
noncomputable def Ib:Code:=(Tryz.f166.body).getD .skip
theorem JO(a:Array Value)(w:World)(h:a.size=2):CallsDIn Fence.wide 0 Tryz.prog 183 a .returning w λe c b=>(∃v,e = .returned v)/\c = .returning/\Below w.heap.size w b/\w.drawn<=b.drawn:=
 aaV (n:=2) Tryz.func183 rfl rfl (by kernel_rfl) a w h
end Go.Proofs.YtaaichlgdgjgjaaGreatDoor
end
section
namespace Go.Proofs.YtaaichlgdgjgjaaGreatDoor
open Go Go.Ab Go.Num
def ZL:Nat->Bool:=λg=>Nat.beq g 1
noncomputable def prS:FuncId->Option yT:=λf=>Vy (Nat.beq f 81) (some Gw) (Vy (Nat.beq f 222) (some tx) (Vy (Nat.beq f 226) (some rQ) (Vy (Nat.beq f 166) (some (Ap Tryz.prog ZL Tryz.f166 (PI Ib) (KC (KC Ib)) 5)) none)))
noncomputable def SS:Sx:=⟨Tryz.prog,ZL,prS⟩
theorem ahl:aI Tryz.prog 22=some 1:=by kernel_rfl
abbrev lI(h:ae)(p:Addr)(K:Int->Prop):Prop:=xI .i64 (aj SS.P 3 h (.pointer (some p))) K
abbrev lS(h:ae)(p:Addr)(K:List UInt8->Prop):Prop:=xS (aj SS.P 9 h (.pointer (some p))) K
abbrev lB(h:ae)(p:Addr)(K:Bool->Prop):Prop:=xB (aj SS.P 4 h (.pointer (some p))) K
abbrev lL(t:TypeId)(h:ae)(p:Addr)(K:Option Addr->Nat->Nat->Prop):Prop:=xL (aj SS.P t h (.pointer (some p))) K
abbrev lA(t:TypeId)(h:ae)(v:Value)(K:List Value->Prop):Prop:=xA (aj SS.P t h v) K
abbrev fP(t:TypeId)(v:Value)(i:Nat)(K:Addr->Prop):Prop:=xP (bk SS.P t v i) K
abbrev iP(t:TypeId)(v i:Value)(K:Addr->Prop):Prop:=xP (aD SS.P t v i) K
variable{s:List UInt8}{t:List UInt8}{z:Int}{v:Value}{w:Value}{h:ae}{Q:VH}{b:Bool}
noncomputable def Sd:FD:=dq Tryz.f191 []
theorem OE(l m:LB)(h:ae)(Q:VH)(e:FW SS 204 [(strOf l),(strOf m)] h λc d=>yB c λb=>au (!b) (Q (.tuple ⟨[(strOf l),(.bool false)]⟩) d) (xS (cg SS.P 9 (strOf l) (some (.int .i64 ((m:LB).length:Int))) none none d) λa=>Q (.tuple ⟨[(strOf a),(.bool true)]⟩) d)):FW SS 191 [(strOf l),(strOf m)] h Q:=du Sd Tryz.func191 (ai e)
noncomputable def VJ:FD:=dq Tryz.f177 []
theorem Se(l m:LB)(h:ae)(Q:VH)(e:FW SS 191 [(strOf l),(strOf m)] h λc d=>∃b:LB,∃a:Bool,c=(.tuple ⟨[(strOf b),(.bool a)]⟩)/\Q (.tuple ⟨[(strOf b),(.bool a)]⟩) d):FW SS 177 [(strOf l),(strOf m)] h Q:=du VJ Tryz.func177 (ai e)
noncomputable def OT:FD:=dq Tryz.f214 []
theorem Mk(l:LB)(c:Int)(h:ae)(Q:VH)(d:FW SS 226 [(strOf l),(.int .u8 c)] h λb c=>yI .i64 b λa=>Q (.int .i64 a) c):FW SS 214 [(strOf l),(.int .u8 c)] h Q:=du OT Tryz.func214 (ai d)
noncomputable def Wm:FD:=dq Tryz.f205 []
theorem Ss(l:LB)(h:ae)(Q:VH)(e:au (([47]:LB)==l) (Q (.int .i64 0) h) (xI .u8 (bZ SS.P 9 (strOf [47]) (.int .i64 0)) λd=>FW SS 214 [(strOf l),(.int .u8 d)] h λb c=>yI .i64 b λa=>Q (.int .i64 a) c)):FW SS 205 [(strOf l),(strOf [47])] h Q:=du Wm Tryz.func205 (ai e)
noncomputable def adx:FD:=dq Tryz.f192 []
theorem aaF(l:LB)(h:ae)(Q:VH)(f:FW SS 205 [(strOf l),(strOf [47])] h λd e=>yI .i64 d λc=>au (decide ((c:Int)>=0)) (xS (cg SS.P 9 (strOf l) none (some (.int .i64 c)) none (room e 12)) λb=>xS (cg SS.P 9 (strOf l) (some (.int .i64 (wrap .i64 (c+1)))) none none (room e 12)) λa=>Q (.tuple ⟨[(strOf b),(strOf a),(.bool true)]⟩) (room e 12)) (Q (.tuple ⟨[(strOf l),(strOf []),(.bool false)]⟩) e)):FW SS 192 [(strOf l),(strOf [47])] h Q:=du adx Tryz.func192 (ai f)
noncomputable def afl:FD:=dq Tryz.f178 []
theorem ady(l:LB)(h:ae)(Q:VH)(f:FW SS 192 [(strOf l),(strOf [47])] h λd e=>∃c:LB,∃b:LB,∃a:Bool,d=(.tuple ⟨[(strOf c),(strOf b),(.bool a)]⟩)/\Q (.tuple ⟨[(strOf c),(strOf b),(.bool a)]⟩) e):FW SS 178 [(strOf l),(strOf [47])] h Q:=du afl Tryz.func178 (ai f)
noncomputable def lf:FD:=dq Tryz.f116 [([1,0,1,0,0],[0,1,5])]
abbrev kd(l:LB)(c:Int)(i:Nat):LV:=[(strOf l),(.int .u8 c),(iA i)]
theorem Kn(l:LB)(c:Int)(h:ae)(Q:VH)(a:LL SS lf [1,0,1,0,0] (kd l c 0) h (KK SS lf [1,0,1,0] [] (EE SS lf Q))):FW SS 116 [(strOf l),(.int .u8 c)] h Q:=du lf Tryz.func116 (ai a)
theorem xm(l:LB)(c:Int)  (d:Nat->Nat->ae->Prop) (Q:VH) (step:∀(b:Nat)(i:Nat)(f:Nat->Value)(h:ae),d b i h->au (decide (((i:Int):Int)<((l:LB).length:Int))) (xI .u8 (bZ SS.P 9 (strOf l) (iA i)) λa=>au (((a:Int)==c)) (Q (iA i) h) (aM (gp (kd l c) d) b [(strOf l),(.int .u8 c),(.int .i64 (wrap .i64 ((i:Int)+1)))] h)) (Q (.int .i64 (-1)) h)) (b:Nat) {i:Nat} {h:ae} (e:d b i h):LL SS lf [1,0,1,0,0] (kd l c i) h (KK SS lf [1,0,1,0] [] (EE SS lf Q)):=
 dJ (kd l c) d (λb i f h e=>ai (step b i f h e)) b e
noncomputable def M5:FD:=dq Tryz.f117 []
theorem Kr(l:LB)(h:ae)(Q:VH)(d:au (decide ((((l:LB).length:Int):Int)<=400)) (FW SS 136 [(strOf l)] h λb c=>yB b λa=>Q (.bool a) c) (Q (.bool false) h)):FW SS 117 [(strOf l)] h Q:=du M5 Tryz.func117 (ai d)
noncomputable def ax:FD:=dq Tryz.f94 []
abbrev DA(l:LB)(cc:Code)(h:ae)(Q:VH):Prop:=au (decide ((((l:LB).length:Int):Int)>0)) (xI .u8 (bZ SS.P 9 (strOf l) (.int .i64 0)) λc=>au (((c:Int)==45)) (xS (cg SS.P 9 (strOf l) (some (.int .i64 1)) none none h) λe=>FW SS 116 [(strOf e),(.int .u8 47)] h λr g=>yI .i64 r λd=>au (decide ((d:Int)>=0)) (xS (cg SS.P 9 (strOf e) (some (.int .i64 (wrap .i64 (d+1)))) none none g) λp=>xS (cg SS.P 9 (strOf e) none (some (.int .i64 d)) none g) λo=>wpS SS ax.nm ax.ms [1,1,1,1,1,1] cc (uN [(strOf l),undef,(.bool false),(strOf []),(strOf []),(.bool false),(strOf o),(strOf p),(.bool (((c:Int)==45))),(.int .i64 d),undef,undef,(strOf l),(strOf l),(.int .i64 ((l:LB).length:Int)),(.bool (decide ((((l:LB).length:Int):Int)>0))),(.bool true),(strOf l),(.int .u8 c),(.bool (((c:Int)==45))),(.bool (((c:Int)==45))),(.bool (((c:Int)==45))),(strOf l),(strOf e),(strOf e),(.int .i64 d),(.int .i64 d),(.bool (decide ((d:Int)>=0))),(strOf e),(.int .i64 d),(.int .i64 (wrap .i64 (d+1))),(strOf p),(strOf e),(.int .i64 d),(strOf o)] 46) g (EE SS ax Q)) (wpS SS ax.nm ax.ms [1,1,1,1,1,1] cc (uN [(strOf l),undef,(.bool false),(strOf []),(strOf []),(.bool false),(strOf e),(strOf [49]),(.bool (((c:Int)==45))),(.int .i64 d),undef,undef,(strOf l),(strOf l),(.int .i64 ((l:LB).length:Int)),(.bool (decide ((((l:LB).length:Int):Int)>0))),(.bool true),(strOf l),(.int .u8 c),(.bool (((c:Int)==45))),(.bool (((c:Int)==45))),(.bool (((c:Int)==45))),(strOf l),(strOf e),(strOf e),(.int .i64 d),(.int .i64 d),(.bool (decide ((d:Int)>=0)))] 53) g (EE SS ax Q))) (FW SS 116 [(strOf l),(.int .u8 47)] h λs i=>yI .i64 s λb=>au (decide ((b:Int)>=0)) (xS (cg SS.P 9 (strOf l) (some (.int .i64 (wrap .i64 (b+1)))) none none i) λn=>xS (cg SS.P 9 (strOf l) none (some (.int .i64 b)) none i) λk=>wpS SS ax.nm ax.ms [1,1,1,1,1,1] cc (uN [(strOf l),undef,(.bool false),(strOf []),(strOf []),(.bool false),(strOf k),(strOf n),(.bool (((c:Int)==45))),(.int .i64 b),undef,undef,(strOf l),(strOf l),(.int .i64 ((l:LB).length:Int)),(.bool (decide ((((l:LB).length:Int):Int)>0))),(.bool true),(strOf l),(.int .u8 c),(.bool (((c:Int)==45))),(.bool (((c:Int)==45))),(.bool (((c:Int)==45))),undef,undef,(strOf l),(.int .i64 b),(.int .i64 b),(.bool (decide ((b:Int)>=0))),(strOf l),(.int .i64 b),(.int .i64 (wrap .i64 (b+1))),(strOf n),(strOf l),(.int .i64 b),(strOf k)] 46) i (EE SS ax Q)) (wpS SS ax.nm ax.ms [1,1,1,1,1,1] cc (uN [(strOf l),undef,(.bool false),(strOf []),(strOf []),(.bool false),(strOf l),(strOf [49]),(.bool (((c:Int)==45))),(.int .i64 b),undef,undef,(strOf l),(strOf l),(.int .i64 ((l:LB).length:Int)),(.bool (decide ((((l:LB).length:Int):Int)>0))),(.bool true),(strOf l),(.int .u8 c),(.bool (((c:Int)==45))),(.bool (((c:Int)==45))),(.bool (((c:Int)==45))),undef,undef,(strOf l),(.int .i64 b),(.int .i64 b),(.bool (decide ((b:Int)>=0)))] 53) i (EE SS ax Q)))) (FW SS 116 [(strOf l),(.int .u8 47)] h λq f=>yI .i64 q λa=>au (decide ((a:Int)>=0)) (xS (cg SS.P 9 (strOf l) (some (.int .i64 (wrap .i64 (a+1)))) none none f) λm=>xS (cg SS.P 9 (strOf l) none (some (.int .i64 a)) none f) λj=>wpS SS ax.nm ax.ms [1,1,1,1,1,1] cc (uN [(strOf l),undef,(.bool false),(strOf []),(strOf []),(.bool false),(strOf j),(strOf m),(.bool false),(.int .i64 a),undef,undef,(strOf l),(strOf l),(.int .i64 ((l:LB).length:Int)),(.bool (decide ((((l:LB).length:Int):Int)>0))),(.bool false),undef,undef,undef,(.bool false),(.bool false),undef,undef,(strOf l),(.int .i64 a),(.int .i64 a),(.bool (decide ((a:Int)>=0))),(strOf l),(.int .i64 a),(.int .i64 (wrap .i64 (a+1))),(strOf m),(strOf l),(.int .i64 a),(strOf j)] 46) f (EE SS ax Q)) (wpS SS ax.nm ax.ms [1,1,1,1,1,1] cc (uN [(strOf l),undef,(.bool false),(strOf []),(strOf []),(.bool false),(strOf l),(strOf [49]),(.bool false),(.int .i64 a),undef,undef,(strOf l),(strOf l),(.int .i64 ((l:LB).length:Int)),(.bool (decide ((((l:LB).length:Int):Int)>0))),(.bool false),undef,undef,undef,(.bool false),(.bool false),undef,undef,(strOf l),(.int .i64 a),(.int .i64 a),(.bool (decide ((a:Int)>=0)))] 53) f (EE SS ax Q)))
theorem Kq(l:LB)(h:ae)(Q:VH)(a:DA l (gP [1,1,1,1,1,1] ax.body) h Q):FW SS 94 [(strOf l)] h Q:=by
 have e:∀cc,DA l cc h Q=wpS SS ax.nm ax.ms [] (setAt [1,1,1,1,1,1] cc ax.body) ([(strOf l)]++List.replicate (ax.nm-([(strOf l)]:LV).length) undef) h (EE SS ax Q):=λcc=>by kernel_rfl
 have e:=e (gP [1,1,1,1,1,1] ax.body);rw[jO]at e;exact du ax Tryz.func94 (ai a e)
abbrev xp(n d:LB)(neg:Bool)(a:Int)(cc:Code)(Z x1 X x3 Y W K L m H x P U G O M o l k w z V J B s I D p S i j x7 y9 u5 u4 y8 y3 y1 y6 z2 y0 x9 u0 u6 u3 z4 u2 z5 y5 x8 z9 x6 u1 z6 z7 y7 z8 y4 z1 z3 z0 y2 q t C r u A T E F y f g v N R:Value)(h:ae)(Q:VH):Prop:=FW SS 117 [(strOf n)] h λv1 h2=>yB v1 λe=>au (!e) (Q (.tuple ⟨[(.bool false),(strOf []),(strOf []),(.bool false)]⟩) h2) (FW SS 117 [(strOf d)] h2 λv4 c=>yB v4 λb=>au (!b) (Q (.tuple ⟨[(.bool false),(strOf []),(strOf []),(.bool false)]⟩) c) (au ((d:LB)==[48]) (Q (.tuple ⟨[(.bool false),(strOf []),(strOf []),(.bool false)]⟩) c) (au ((n:LB)==[48]) (au neg (Q (.tuple ⟨[(.bool false),(strOf []),(strOf []),(.bool false)]⟩) c) (au (decide ((a:Int)>=0)) (Q (.tuple ⟨[(.bool false),(strOf []),(strOf []),(.bool false)]⟩) c) (au ((d:LB)==[49]) (au (decide ((a:Int)>=0)) (Q (.tuple ⟨[(.bool false),(strOf []),(strOf []),(.bool false)]⟩) c) (wpS SS ax.nm ax.ms [1,1,1,1,1,1,1] cc [Z,x1,X,x3,Y,W,(strOf n),(strOf d),(.bool neg),(.int .i64 a),K,L,m,H,x,P,U,G,O,M,o,l,k,w,z,V,J,B,s,I,D,p,S,i,j,(strOf n),(.bool e),(.bool (!e)),(.bool false),(strOf d),(.bool b),(.bool (!b)),(.bool (!b)),(.bool false),(strOf d),(.bool ((d:LB)==[48])),(.bool ((d:LB)==[48])),(.bool false),(strOf n),(.bool ((n:LB)==[48])),(.bool true),(.bool neg),(.bool false),(.int .i64 a),(.bool (decide ((a:Int)>=0))),(.bool (decide ((a:Int)>=0))),(.bool (decide ((a:Int)>=0))),(.bool (decide ((a:Int)>=0))),(.bool false),(strOf d),(.bool ((d:LB)==[49])),(.bool true),(.int .i64 a),(.bool (decide ((a:Int)>=0))),(.bool (decide ((a:Int)>=0))),(.bool (decide ((a:Int)>=0))),q,t,C,r,u,A,T,E,F,y,f,g,v,N,R] c (EE SS ax Q))) (wpS SS ax.nm ax.ms [1,1,1,1,1,1,1] cc [Z,x1,X,x3,Y,W,(strOf n),(strOf d),(.bool neg),(.int .i64 a),K,L,m,H,x,P,U,G,O,M,o,l,k,w,z,V,J,B,s,I,D,p,S,i,j,(strOf n),(.bool e),(.bool (!e)),(.bool false),(strOf d),(.bool b),(.bool (!b)),(.bool (!b)),(.bool false),(strOf d),(.bool ((d:LB)==[48])),(.bool ((d:LB)==[48])),(.bool false),(strOf n),(.bool ((n:LB)==[48])),(.bool true),(.bool neg),(.bool false),(.int .i64 a),(.bool (decide ((a:Int)>=0))),(.bool (decide ((a:Int)>=0))),(.bool (decide ((a:Int)>=0))),(.bool (decide ((a:Int)>=0))),(.bool false),(strOf d),(.bool ((d:LB)==[49])),(.bool false),undef,undef,(.bool false),(.bool false),q,t,C,r,u,A,T,E,F,y,f,g,v,N,R] c (EE SS ax Q))))) (au ((d:LB)==[49]) (au (decide ((a:Int)>=0)) (Q (.tuple ⟨[(.bool false),(strOf []),(strOf []),(.bool false)]⟩) c) (wpS SS ax.nm ax.ms [1,1,1,1,1,1,1] cc [Z,x1,X,x3,Y,W,(strOf n),(strOf d),(.bool neg),(.int .i64 a),K,L,m,H,x,P,U,G,O,M,o,l,k,w,z,V,J,B,s,I,D,p,S,i,j,(strOf n),(.bool e),(.bool (!e)),(.bool false),(strOf d),(.bool b),(.bool (!b)),(.bool (!b)),(.bool false),(strOf d),(.bool ((d:LB)==[48])),(.bool ((d:LB)==[48])),(.bool false),(strOf n),(.bool ((n:LB)==[48])),(.bool false),undef,undef,undef,undef,undef,(.bool false),(.bool false),(.bool false),(strOf d),(.bool ((d:LB)==[49])),(.bool true),(.int .i64 a),(.bool (decide ((a:Int)>=0))),(.bool (decide ((a:Int)>=0))),(.bool (decide ((a:Int)>=0))),q,t,C,r,u,A,T,E,F,y,f,g,v,N,R] c (EE SS ax Q))) (wpS SS ax.nm ax.ms [1,1,1,1,1,1,1] cc [Z,x1,X,x3,Y,W,(strOf n),(strOf d),(.bool neg),(.int .i64 a),K,L,m,H,x,P,U,G,O,M,o,l,k,w,z,V,J,B,s,I,D,p,S,i,j,(strOf n),(.bool e),(.bool (!e)),(.bool false),(strOf d),(.bool b),(.bool (!b)),(.bool (!b)),(.bool false),(strOf d),(.bool ((d:LB)==[48])),(.bool ((d:LB)==[48])),(.bool false),(strOf n),(.bool ((n:LB)==[48])),(.bool false),undef,undef,undef,undef,undef,(.bool false),(.bool false),(.bool false),(strOf d),(.bool ((d:LB)==[49])),(.bool false),undef,undef,(.bool false),(.bool false),q,t,C,r,u,A,T,E,F,y,f,g,v,N,R] c (EE SS ax Q))))))
theorem D1{neg:Bool}{x2 x3 x4 x5 y4 y6 x y0 N z2 z9 x9 z1 y8 y p m M P u2 y3 U H y2 Y D z7 f l d C u0 z6 B o k u R j i y7 u1 z4 V z3 X r g y5 a y9 Z x7 A y1 q K S G n E I W F J T z8 x6 x8 O b c L z0 z5:Value}(hx:xp s t neg z (gP [1,1,1,1,1,1,1] ax.body) v w x2 x3 x4 x5 y4 y6 x y0 N z2 z9 x9 z1 y8 y p m M P u2 y3 U H y2 Y D z7 f l d C u0 z6 B o k u R j i y7 u1 z4 V z3 X r g y5 a y9 Z x7 A y1 q K S G n E I W F J T z8 x6 x8 O b c L z0 z5 h Q):TT SS ax [1,1,1,1,1,1] [v,w,x2,x3,x4,x5,(strOf s),(strOf t),(.bool neg),(.int .i64 z),y4,y6,x,y0,N,z2,z9,x9,z1,y8,y,p,m,M,P,u2,y3,U,H,y2,Y,D,z7,f,l,d,C,u0,z6,B,o,k,u,R,j,i,y7,u1,z4,V,z3,X,r,g,y5,a,y9,Z,x7,A,y1,q,K,S,G,n,E,I,W,F,J,T,z8,x6,x8,O,b,c,L,z0,z5] h (EE SS ax Q):=by
 have e:∀cc,xp s t neg z cc v w x2 x3 x4 x5 y4 y6 x y0 N z2 z9 x9 z1 y8 y p m M P u2 y3 U H y2 Y D z7 f l d C u0 z6 B o k u R j i y7 u1 z4 V z3 X r g y5 a y9 Z x7 A y1 q K S G n E I W F J T z8 x6 x8 O b c L z0 z5 h Q=wpS SS ax.nm ax.ms [1,1,1,1,1,1] (setAt [1] cc (gP [1,1,1,1,1,1] ax.body)) [v,w,x2,x3,x4,x5,(strOf s),(strOf t),(.bool neg),(.int .i64 z),y4,y6,x,y0,N,z2,z9,x9,z1,y8,y,p,m,M,P,u2,y3,U,H,y2,Y,D,z7,f,l,d,C,u0,z6,B,o,k,u,R,j,i,y7,u1,z4,V,z3,X,r,g,y5,a,y9,Z,x7,A,y1,q,K,S,G,n,E,I,W,F,J,T,z8,x6,x8,O,b,c,L,z0,z5] h (EE SS ax Q):=λcc=>by kernel_rfl
 have e:=e (gP [1,1,1,1,1,1,1] ax.body);have ec:(gP [1,1,1,1,1,1,1] ax.body)=gP [1] (gP [1,1,1,1,1,1] ax.body):=by kernel_rfl
 have es:setAt [1] (gP [1,1,1,1,1,1,1] ax.body) (gP [1,1,1,1,1,1] ax.body)=gP [1,1,1,1,1,1] ax.body:=by rw[ec,jO]
 rw[es]at e;exact ai hx e
theorem D2{neg:Bool}{x2 x3 x4 x5 y7 y9 B y3 R z5 u2 y2 z4 z1 C u p P T u5 y6 X K y5 x7 G u0 j o i F u3 z9 E r n A U m l z0 u4 z7 Y z6 x6 y k y8 d z2 x8 y0 D y4 x N V J q H L Z I M W u1 x9 y1 S f g O z3 z8:Value}(hx:FW SS 118 [(strOf s),(strOf t)] h λc e=>∃b:LB,∃a:Int,c=(.tuple ⟨[(strOf b),(.int .i64 a)]⟩)/\au (!((b:LB)==[49])) (au (!((t:LB)==[49])) (Q (.tuple ⟨[(.bool false),(strOf []),(strOf []),(.bool false)]⟩) e) (Q (.tuple ⟨[(.bool neg),(strOf s),(strOf t),(.bool true)]⟩) e)) (Q (.tuple ⟨[(.bool neg),(strOf s),(strOf t),(.bool true)]⟩) e)):TT SS ax [1,1,1,1,1,1,1] [v,w,x2,x3,x4,x5,(strOf s),(strOf t),(.bool neg),(.int .i64 z),y7,y9,B,y3,R,z5,u2,y2,z4,z1,C,u,p,P,T,u5,y6,X,K,y5,x7,G,u0,j,o,i,F,u3,z9,E,r,n,A,U,m,l,z0,u4,z7,Y,z6,x6,y,k,y8,d,z2,x8,y0,D,y4,x,N,V,J,q,H,L,Z,I,M,W,u1,x9,y1,S,f,g,O,z3,z8] h (EE SS ax Q):=ai hx
noncomputable def M7:FD:=dq Tryz.f71 []
theorem Kt(l:LB)(h:ae)(Q:VH)(g:FW SS 94 [(strOf l)] h λe f=>∃d:Bool,∃c:LB,∃b:LB,∃a:Bool,e=(.tuple ⟨[(.bool d),(strOf c),(strOf b),(.bool a)]⟩)/\Q (.bool a) f):FW SS 71 [(strOf l)] h Q:=du M7 Tryz.func71 (ai g)
noncomputable def M6:FD:=dq Tryz.f96 []
theorem Ks(l m:LB)(h:ae)(Q:VH)(e:FW SS 122 [(strOf l),(strOf m)] h λc d=>∃b:LB,∃a:Int,c=(.tuple ⟨[(strOf b),(.int .i64 a)]⟩)/\Q (strOf b) d):FW SS 96 [(strOf l),(strOf m)] h Q:=du M6 Tryz.func96 (ai e)
noncomputable def TF:FD:=dq Tryz.f95 []
theorem Pw(p:Bool)(l:LB)(q:Bool)(m:LB)(h:ae)(Q:VH)(i:au (p==q) (FW SS 119 [(strOf l),(strOf m)] h λc d=>∃b:LB,∃a:Int,c=(.tuple ⟨[(strOf b),(.int .i64 a)]⟩)/\Q (.tuple ⟨[(.bool p),(strOf b)]⟩) d) (FW SS 120 [(strOf l),(strOf m)] h λf g=>yI .i64 f λe=>au (decide ((e:Int)>=0)) (FW SS 121 [(strOf l),(strOf m)] g λc d=>∃b:LB,∃a:Int,c=(.tuple ⟨[(strOf b),(.int .i64 a)]⟩)/\Q (.tuple ⟨[(.bool p),(strOf b)]⟩) d) (FW SS 121 [(strOf m),(strOf l)] g λc d=>∃b:LB,∃a:Int,c=(.tuple ⟨[(strOf b),(.int .i64 a)]⟩)/\Q (.tuple ⟨[(.bool q),(strOf b)]⟩) d))):FW SS 95 [(.bool p),(strOf l),(.bool q),(strOf m)] h Q:=du TF Tryz.func95 (ai i)
noncomputable def TE:FD:=dq Tryz.f72 []
theorem Pv(l m:LB)(h:ae)(Q:VH)(w:FW SS 94 [(strOf l)] h λu v=>∃t:Bool,∃s:LB,∃r:LB,∃q:Bool,u=(.tuple ⟨[(.bool t),(strOf s),(strOf r),(.bool q)]⟩)/\FW SS 94 [(strOf m)] v λo p=>∃n:Bool,∃m:LB,∃l:LB,∃k:Bool,o=(.tuple ⟨[(.bool n),(strOf m),(strOf l),(.bool k)]⟩)/\au (!q) (Q (.int .i64 0) p) (au (!k) (Q (.int .i64 0) p) (FW SS 96 [(strOf s),(strOf l)] p λi j=>yS i λh=>FW SS 96 [(strOf m),(strOf r)] j λf g=>yS f λe=>FW SS 95 [(.bool t),(strOf h),(.bool (!n)),(strOf e)] g λc d=>∃b:Bool,∃a:LB,c=(.tuple ⟨[(.bool b),(strOf a)]⟩)/\au ((a:LB)==[48]) (Q (.int .i64 0) d) (au b (Q (.int .i64 (-1)) d) (Q (.int .i64 1) d))))):FW SS 72 [(strOf l),(strOf m)] h Q:=du TE Tryz.func72 (ai w)
noncomputable def Tv:FD:=dq Tryz.f142 []
theorem Pq(l:LB)(e:Int)(h:ae)(Q:VH)(a:au (((e:Int) !=0)) (xA (bu SS.P 176 []) λ_=>False) (Q (strOf l) h)):FW SS 142 [(strOf l),(.int .i64 e)] h Q:=du Tv Tryz.func142 (ai a)
noncomputable def al:FD:=dq Tryz.f145 []
abbrev Gh(l:LB)(cc:Code)(h:ae)(Q:VH):Prop:=xN (av SS.P 155) h λm j=>FW SS 177 [(strOf l),(strOf [45])] j λg k=>∃c:LB,∃d:Bool,g=(.tuple ⟨[(strOf c),(.bool d)]⟩)/\FW SS 178 [(strOf c),(strOf [47])] k λi f=>∃e:LB,∃b:LB,∃a:Bool,i=(.tuple ⟨[(strOf e),(strOf b),(.bool a)]⟩)/\au (!a) (wpS SS al.nm al.ms [1,1,1,1] cc (uN [(strOf l),undef,(pA (h.next)),(.bool false),(strOf c),(.bool d),(strOf e),(strOf [49]),(.bool a),undef,undef,(.tuple ⟨[(strOf c),(.bool d)]⟩),(strOf l),(.tuple ⟨[(strOf c),(.bool d)]⟩),(strOf c),(.bool d),(.tuple ⟨[(strOf e),(strOf b),(.bool a)]⟩),(strOf c),(.tuple ⟨[(strOf e),(strOf b),(.bool a)]⟩),(strOf e),(strOf b),(.bool a),(.bool a),(.bool (!a))] 53) f (EE SS al Q)) (wpS SS al.nm al.ms [1,1,1,1] cc (uN [(strOf l),undef,(pA (h.next)),(.bool false),(strOf c),(.bool d),(strOf e),(strOf b),(.bool a),undef,undef,(.tuple ⟨[(strOf c),(.bool d)]⟩),(strOf l),(.tuple ⟨[(strOf c),(.bool d)]⟩),(strOf c),(.bool d),(.tuple ⟨[(strOf e),(strOf b),(.bool a)]⟩),(strOf c),(.tuple ⟨[(strOf e),(strOf b),(.bool a)]⟩),(strOf e),(strOf b),(.bool a),(.bool a),(.bool (!a))] 53) f (EE SS al Q))
theorem MY(l:LB)(h:ae)(Q:VH)(a:Gh l (gP [1,1,1,1] al.body) h Q):FW SS 145 [(strOf l)] h Q:=by
 have e:∀cc,Gh l cc h Q=wpS SS al.nm al.ms [] (setAt [1,1,1,1] cc al.body) ([(strOf l)]++List.replicate (al.nm-([(strOf l)]:LV).length) undef) h (EE SS al Q):=λcc=>by kernel_rfl
 have e:=e (gP [1,1,1,1] al.body);rw[jO]at e;exact du al Tryz.func145 (ai a e)
abbrev zw(n d:LB)(neg r:Bool)(p:Addr)(cc:Code)(x0 x1 x3 x4 x9 Z x5 v X G y1 y6 W y0 x7 w q m F z9 u9 u4 u1 z8 u3 u2 z7 u7 z0 z2 y9 z6 u8 u6 z5 z3 z1 u I l j x6 y7 y3 N y2 P t i x2 f x8 S U x Y s E J A o y C O z D K y4 T V H g:Value)(h:ae)(Q:VH):Prop:=FW SS 171 [(strOf n)] h λv1 e=>yB v1 λc=>au (!c) (xA (bu SS.P 155 []) λc4=>xU (ah SS.P 155 (.pointer (some p)) (.agg ⟨c4⟩) e) e λu5 g6=>eK SS [((.pointer (some p)),some 155),((.bool false),none)] g6 Q) (FW SS 171 [(strOf d)] e λv7 a=>yB v7 λb=>au (!b) (xA (bu SS.P 155 []) λy5=>xU (ah SS.P 155 (.pointer (some p)) (.agg ⟨y5⟩) a) a λz4 k=>eK SS [((.pointer (some p)),some 155),((.bool false),none)] k Q) (au (decide ((((n:LB).length:Int):Int)>400)) (xA (bu SS.P 155 []) λM=>xU (ah SS.P 155 (.pointer (some p)) (.agg ⟨M⟩) a) a λy8 L=>eK SS [((.pointer (some p)),some 155),((.bool false),none)] L Q) (au (decide ((((d:LB).length:Int):Int)>400)) (xA (bu SS.P 155 []) λR=>xU (ah SS.P 155 (.pointer (some p)) (.agg ⟨R⟩) a) a λu0 B=>eK SS [((.pointer (some p)),some 155),((.bool false),none)] B Q) (wpS SS al.nm al.ms [1,1,1,1,1] cc [x0,x1,(.pointer (some p)),x3,x4,(.bool neg),(strOf n),(strOf d),(.bool r),x9,Z,x5,v,X,G,y1,y6,W,y0,x7,w,q,m,F,(strOf n),(.bool c),(.bool (!c)),(.bool false),(strOf d),(.bool b),(.bool (!b)),(.bool (!b)),(.bool false),(strOf n),(.int .i64 ((n:LB).length:Int)),(.bool (decide ((((n:LB).length:Int):Int)>400))),(.bool (decide ((((n:LB).length:Int):Int)>400))),(.bool false),(strOf d),(.int .i64 ((d:LB).length:Int)),(.bool (decide ((((d:LB).length:Int):Int)>400))),(.bool (decide ((((d:LB).length:Int):Int)>400))),u,I,l,j,x6,y7,y3,N,y2,P,t,i,x2,f,x8,S,U,x,Y,s,E,J,A,o,y,C,O,z,D,K,y4,T,V,H,g] a (EE SS al Q)))))
theorem Gi{neg:Bool}{p:Addr}{x3 x4 x9 y2 y4 y x7 M y9 z5 x6 y8 y6 z q m L O z8 y1 T H y0 X D z3 f l d C z6 z2 B o k x P j i y5 z7 z1 U z0 W u g y3 a y7 Y x2 A x8 r K R G n E I V F J S z4 Z x5 N c:Value}(hx:zw s t neg b p (gP [1,1,1,1,1] al.body) v w x3 x4 x9 y2 y4 y x7 M y9 z5 x6 y8 y6 z q m L O z8 y1 T H y0 X D z3 f l d C z6 z2 B o k x P j i y5 z7 z1 U z0 W u g y3 a y7 Y x2 A x8 r K R G n E I V F J S z4 Z x5 N c h Q):TT SS al [1,1,1,1] [v,w,(.pointer (some p)),x3,x4,(.bool neg),(strOf s),(strOf t),(.bool b),x9,y2,y4,y,x7,M,y9,z5,x6,y8,y6,z,q,m,L,O,z8,y1,T,H,y0,X,D,z3,f,l,d,C,z6,z2,B,o,k,x,P,j,i,y5,z7,z1,U,z0,W,u,g,y3,a,y7,Y,x2,A,x8,r,K,R,G,n,E,I,V,F,J,S,z4,Z,x5,N,c] h (EE SS al Q):=by
 have e:∀cc,zw s t neg b p cc v w x3 x4 x9 y2 y4 y x7 M y9 z5 x6 y8 y6 z q m L O z8 y1 T H y0 X D z3 f l d C z6 z2 B o k x P j i y5 z7 z1 U z0 W u g y3 a y7 Y x2 A x8 r K R G n E I V F J S z4 Z x5 N c h Q=wpS SS al.nm al.ms [1,1,1,1] (setAt [1] cc (gP [1,1,1,1] al.body)) [v,w,(.pointer (some p)),x3,x4,(.bool neg),(strOf s),(strOf t),(.bool b),x9,y2,y4,y,x7,M,y9,z5,x6,y8,y6,z,q,m,L,O,z8,y1,T,H,y0,X,D,z3,f,l,d,C,z6,z2,B,o,k,x,P,j,i,y5,z7,z1,U,z0,W,u,g,y3,a,y7,Y,x2,A,x8,r,K,R,G,n,E,I,V,F,J,S,z4,Z,x5,N,c] h (EE SS al Q):=λcc=>by kernel_rfl
 have e:=e (gP [1,1,1,1,1] al.body);have ec:(gP [1,1,1,1,1] al.body)=gP [1] (gP [1,1,1,1] al.body):=by kernel_rfl
 have es:setAt [1] (gP [1,1,1,1,1] al.body) (gP [1,1,1,1] al.body)=gP [1,1,1,1] al.body:=by rw[ec,jO]
 rw[es]at e;exact ai hx e
abbrev zx(n d:LB)(neg a:Bool)(p:Addr)(cc:Code)(x0 x1 x3 x4 x9 U V q P E Y x6 O X W r l i D G x8 T J z S L v x2 e g c u x7 Z t k f o z1 y8 y7 z7 u1 u0 z2 z9 z3 z0 y6 z6 y5 z8 z4 z5 s R m C H y j w A K x B I x5 M N F b:Value)(h:ae)(Q:VH):Prop:=au neg (au ((n:LB)==[48]) (xA (bu SS.P 155 []) λc1=>xU (ah SS.P 155 (.pointer (some p)) (.agg ⟨c1⟩) h) h λu2 g3=>eK SS [((.pointer (some p)),some 155),((.bool false),none)] g3 Q) (au a (au ((d:LB)==[48]) (xA (bu SS.P 155 []) λc4=>xU (ah SS.P 155 (.pointer (some p)) (.agg ⟨c4⟩) h) h λu5 g6=>eK SS [((.pointer (some p)),some 155),((.bool false),none)] g6 Q) (au ((d:LB)==[49]) (xA (bu SS.P 155 []) λc7=>xU (ah SS.P 155 (.pointer (some p)) (.agg ⟨c7⟩) h) h λu8 g9=>eK SS [((.pointer (some p)),some 155),((.bool false),none)] g9 Q) (wpS SS al.nm al.ms [1,1,1,1,1,1] cc [x0,x1,(.pointer (some p)),x3,x4,(.bool neg),(strOf n),(strOf d),(.bool a),x9,U,V,q,P,E,Y,x6,O,X,W,r,l,i,D,G,x8,T,J,z,S,L,v,x2,e,g,c,u,x7,Z,t,k,f,o,(.bool neg),(.bool true),(strOf n),(.bool ((n:LB)==[48])),(.bool ((n:LB)==[48])),(.bool false),(.bool a),(.bool true),(strOf d),(.bool ((d:LB)==[48])),(.bool false),(strOf d),(.bool ((d:LB)==[49])),(.bool ((d:LB)==[49])),(.bool ((d:LB)==[49])),(.bool ((d:LB)==[49])),s,R,m,C,H,y,j,w,A,K,x,B,I,x5,M,N,F,b] h (EE SS al Q)))) (wpS SS al.nm al.ms [1,1,1,1,1,1] cc [x0,x1,(.pointer (some p)),x3,x4,(.bool neg),(strOf n),(strOf d),(.bool a),x9,U,V,q,P,E,Y,x6,O,X,W,r,l,i,D,G,x8,T,J,z,S,L,v,x2,e,g,c,u,x7,Z,t,k,f,o,(.bool neg),(.bool true),(strOf n),(.bool ((n:LB)==[48])),(.bool ((n:LB)==[48])),(.bool false),(.bool a),(.bool false),undef,undef,undef,undef,undef,undef,(.bool false),(.bool false),s,R,m,C,H,y,j,w,A,K,x,B,I,x5,M,N,F,b] h (EE SS al Q)))) (au a (au ((d:LB)==[48]) (xA (bu SS.P 155 []) λy3=>xU (ah SS.P 155 (.pointer (some p)) (.agg ⟨y3⟩) h) h λy9 y0=>eK SS [((.pointer (some p)),some 155),((.bool false),none)] y0 Q) (au ((d:LB)==[49]) (xA (bu SS.P 155 []) λy2=>xU (ah SS.P 155 (.pointer (some p)) (.agg ⟨y2⟩) h) h λy4 y1=>eK SS [((.pointer (some p)),some 155),((.bool false),none)] y1 Q) (wpS SS al.nm al.ms [1,1,1,1,1,1] cc [x0,x1,(.pointer (some p)),x3,x4,(.bool neg),(strOf n),(strOf d),(.bool a),x9,U,V,q,P,E,Y,x6,O,X,W,r,l,i,D,G,x8,T,J,z,S,L,v,x2,e,g,c,u,x7,Z,t,k,f,o,(.bool neg),(.bool false),undef,undef,(.bool false),(.bool false),(.bool a),(.bool true),(strOf d),(.bool ((d:LB)==[48])),(.bool false),(strOf d),(.bool ((d:LB)==[49])),(.bool ((d:LB)==[49])),(.bool ((d:LB)==[49])),(.bool ((d:LB)==[49])),s,R,m,C,H,y,j,w,A,K,x,B,I,x5,M,N,F,b] h (EE SS al Q)))) (wpS SS al.nm al.ms [1,1,1,1,1,1] cc [x0,x1,(.pointer (some p)),x3,x4,(.bool neg),(strOf n),(strOf d),(.bool a),x9,U,V,q,P,E,Y,x6,O,X,W,r,l,i,D,G,x8,T,J,z,S,L,v,x2,e,g,c,u,x7,Z,t,k,f,o,(.bool neg),(.bool false),undef,undef,(.bool false),(.bool false),(.bool a),(.bool false),undef,undef,undef,undef,undef,undef,(.bool false),(.bool false),s,R,m,C,H,y,j,w,A,K,x,B,I,x5,M,N,F,b] h (EE SS al Q)))
theorem Gj{neg:Bool}{p:Addr}{x3 x4 x9 y2 y4 y x7 M y9 z5 x6 y8 y6 z q m L O z8 y1 T H y0 X D z3 f l d C z6 z2 B o k x P j i y5 z7 z1 U z0 W u g y3 a y7 Y x2 A x8 r K R G n E I V F J S z4 Z x5 N c:Value}(hx:zx s t neg b p (gP [1,1,1,1,1,1] al.body) v w x3 x4 x9 y2 y4 y x7 M y9 z5 x6 y8 y6 z q m L O z8 y1 T H y0 X D z3 f l d C z6 z2 B o k x P j i y5 z7 z1 U z0 W u g y3 a y7 Y x2 A x8 r K R G n E I V F J S z4 Z x5 N c h Q):TT SS al [1,1,1,1,1] [v,w,(.pointer (some p)),x3,x4,(.bool neg),(strOf s),(strOf t),(.bool b),x9,y2,y4,y,x7,M,y9,z5,x6,y8,y6,z,q,m,L,O,z8,y1,T,H,y0,X,D,z3,f,l,d,C,z6,z2,B,o,k,x,P,j,i,y5,z7,z1,U,z0,W,u,g,y3,a,y7,Y,x2,A,x8,r,K,R,G,n,E,I,V,F,J,S,z4,Z,x5,N,c] h (EE SS al Q):=by
 have e:∀cc,zx s t neg b p cc v w x3 x4 x9 y2 y4 y x7 M y9 z5 x6 y8 y6 z q m L O z8 y1 T H y0 X D z3 f l d C z6 z2 B o k x P j i y5 z7 z1 U z0 W u g y3 a y7 Y x2 A x8 r K R G n E I V F J S z4 Z x5 N c h Q=wpS SS al.nm al.ms [1,1,1,1,1] (setAt [1] cc (gP [1,1,1,1,1] al.body)) [v,w,(.pointer (some p)),x3,x4,(.bool neg),(strOf s),(strOf t),(.bool b),x9,y2,y4,y,x7,M,y9,z5,x6,y8,y6,z,q,m,L,O,z8,y1,T,H,y0,X,D,z3,f,l,d,C,z6,z2,B,o,k,x,P,j,i,y5,z7,z1,U,z0,W,u,g,y3,a,y7,Y,x2,A,x8,r,K,R,G,n,E,I,V,F,J,S,z4,Z,x5,N,c] h (EE SS al Q):=λcc=>by kernel_rfl
 have e:=e (gP [1,1,1,1,1,1] al.body);have ec:(gP [1,1,1,1,1,1] al.body)=gP [1] (gP [1,1,1,1,1] al.body):=by kernel_rfl
 have es:setAt [1] (gP [1,1,1,1,1,1] al.body) (gP [1,1,1,1,1] al.body)=gP [1,1,1,1,1] al.body:=by rw[ec,jO]
 rw[es]at e;exact ai hx e
abbrev zy(n d:LB)(neg t:Bool)(p:Addr)(cc:Code)(x0 x1 x3 x4 x9 z9 W w S E x6 y3 R x5 Z x s q D G y6 U I C T L B y1 i o g A y4 y0 z r m v H l k Y y5 x8 J x7 K u j V e x2 M O y z8 y8 z4 z5 z1 y7 y9 z2 z7 z0 z3 z6 y2 N P F f:Value)(h:ae)(Q:VH):Prop:=FW SS 175 [(strOf n),(strOf d)] h λv1 c=>∃a:LB,∃b:Int,v1=(.tuple ⟨[(strOf a),(.int .i64 b)]⟩)/\au (((b:Int) !=0)) (xA (bu SS.P 155 []) λc5=>xU (ah SS.P 155 (.pointer (some p)) (.agg ⟨c5⟩) c) c λu6 g7=>eK SS [((.pointer (some p)),some 155),((.bool false),none)] g7 Q) (au (!((a:LB)==[49])) (xA (bu SS.P 155 []) λc8=>xU (ah SS.P 155 (.pointer (some p)) (.agg ⟨c8⟩) c) c λu9 X=>eK SS [((.pointer (some p)),some 155),((.bool false),none)] X Q) (wpS SS al.nm al.ms [1,1,1,1,1,1,1] cc [x0,x1,(.pointer (some p)),x3,x4,(.bool neg),(strOf n),(strOf d),(.bool t),(strOf a),(.int .i64 b),W,w,S,E,x6,y3,R,x5,Z,x,s,q,D,G,y6,U,I,C,T,L,B,y1,i,o,g,A,y4,y0,z,r,m,v,H,l,k,Y,y5,x8,J,x7,K,u,j,V,e,x2,M,O,y,(.tuple ⟨[(strOf a),(.int .i64 b)]⟩),(strOf n),(strOf d),(.tuple ⟨[(strOf a),(.int .i64 b)]⟩),(strOf a),(.int .i64 b),(.int .i64 b),(.bool (((b:Int) !=0))),(.bool false),(strOf a),(.bool (!((a:LB)==[49]))),(.bool (!((a:LB)==[49]))),y2,N,P,F,f] c (EE SS al Q)))
theorem Gk{neg:Bool}{p:Addr}{x3 x4 x9 y2 y4 y x7 M y9 z5 x6 y8 y6 z q m L O z8 y1 T H y0 X D z3 f l d C z6 z2 B o k x P j i y5 z7 z1 U z0 W u g y3 a y7 Y x2 A x8 r K R G n E I V F J S z4 Z x5 N c:Value}(hx:zy s t neg b p (gP [1,1,1,1,1,1,1] al.body) v w x3 x4 x9 y2 y4 y x7 M y9 z5 x6 y8 y6 z q m L O z8 y1 T H y0 X D z3 f l d C z6 z2 B o k x P j i y5 z7 z1 U z0 W u g y3 a y7 Y x2 A x8 r K R G n E I V F J S z4 Z x5 N c h Q):TT SS al [1,1,1,1,1,1] [v,w,(.pointer (some p)),x3,x4,(.bool neg),(strOf s),(strOf t),(.bool b),x9,y2,y4,y,x7,M,y9,z5,x6,y8,y6,z,q,m,L,O,z8,y1,T,H,y0,X,D,z3,f,l,d,C,z6,z2,B,o,k,x,P,j,i,y5,z7,z1,U,z0,W,u,g,y3,a,y7,Y,x2,A,x8,r,K,R,G,n,E,I,V,F,J,S,z4,Z,x5,N,c] h (EE SS al Q):=by
 have e:∀cc,zy s t neg b p cc v w x3 x4 x9 y2 y4 y x7 M y9 z5 x6 y8 y6 z q m L O z8 y1 T H y0 X D z3 f l d C z6 z2 B o k x P j i y5 z7 z1 U z0 W u g y3 a y7 Y x2 A x8 r K R G n E I V F J S z4 Z x5 N c h Q=wpS SS al.nm al.ms [1,1,1,1,1,1] (setAt [1] cc (gP [1,1,1,1,1,1] al.body)) [v,w,(.pointer (some p)),x3,x4,(.bool neg),(strOf s),(strOf t),(.bool b),x9,y2,y4,y,x7,M,y9,z5,x6,y8,y6,z,q,m,L,O,z8,y1,T,H,y0,X,D,z3,f,l,d,C,z6,z2,B,o,k,x,P,j,i,y5,z7,z1,U,z0,W,u,g,y3,a,y7,Y,x2,A,x8,r,K,R,G,n,E,I,V,F,J,S,z4,Z,x5,N,c] h (EE SS al Q):=λcc=>by kernel_rfl
 have e:=e (gP [1,1,1,1,1,1,1] al.body);have ec:(gP [1,1,1,1,1,1,1] al.body)=gP [1] (gP [1,1,1,1,1,1] al.body):=by kernel_rfl
 have es:setAt [1] (gP [1,1,1,1,1,1,1] al.body) (gP [1,1,1,1,1,1] al.body)=gP [1,1,1,1,1,1] al.body:=by rw[ec,jO]
 rw[es]at e;exact ai hx e
theorem Gm{neg r:Bool}{p:Addr}{x3 x4 x9 y3 y5 z x8 N z0 z6 x7 y9 y7 A q m M P z9 y2 U I y1 Y E z4 f l e D z7 z3 C o k y R j i y6 z8 z2 V z1 X x g y4 c y8 Z x5 B y0 u L S H n F J W G K T z5 x2 x6 O d:Value}(hx:xA (bu SS.P 155 [(0,(.bool neg)),(1,(strOf s)),(2,(strOf t))]) λb=>xU (ah SS.P 155 (.pointer (some p)) (.agg ⟨b⟩) h) h λ_ a=>eK SS [((.pointer (some p)),some 155),((.bool true),none)] a Q):TT SS al [1,1,1,1,1,1,1] [v,w,(.pointer (some p)),x3,x4,(.bool neg),(strOf s),(strOf t),(.bool r),x9,y3,y5,z,x8,N,z0,z6,x7,y9,y7,A,q,m,M,P,z9,y2,U,I,y1,Y,E,z4,f,l,e,D,z7,z3,C,o,k,y,R,j,i,y6,z8,z2,V,z1,X,x,g,y4,c,y8,Z,x5,B,y0,u,L,S,H,n,F,J,W,G,K,T,z5,x2,x6,O,d] h (EE SS al Q):=ai hx
noncomputable def Ps:FD:=dq Tryz.f109 []
theorem MZ(l:LB)(h:ae)(Q:VH)(e:FW SS 145 [(strOf l)] h λc d=>∃b:LV,∃a:Bool,c=(.tuple ⟨[(.agg ⟨b⟩),(.bool a)]⟩)/\Q (.bool a) d):FW SS 109 [(strOf l)] h Q:=du Ps Tryz.func109 (ai e)
noncomputable def Tw:FD:=dq Tryz.f141 []
theorem Pr(p:Bool)(l:LB)(q:Bool)(m:LB)(h:ae)(Q:VH)(k:au (p==q) (FW SS 168 [(strOf l),(strOf m)] h λf g=>∃e:LB,∃d:Int,f=(.tuple ⟨[(strOf e),(.int .i64 d)]⟩)/\FW SS 142 [(strOf e),(.int .i64 d)] g λb c=>yS b λa=>Q (.tuple ⟨[(.bool p),(strOf a)]⟩) c) (FW SS 169 [(strOf l),(strOf m)] h λi j=>yI .i64 i λh=>au (decide ((h:Int)<0)) (FW SS 170 [(strOf m),(strOf l)] j λf g=>∃e:LB,∃d:Int,f=(.tuple ⟨[(strOf e),(.int .i64 d)]⟩)/\FW SS 142 [(strOf e),(.int .i64 d)] g λb c=>yS b λa=>Q (.tuple ⟨[(.bool q),(strOf a)]⟩) c) (FW SS 170 [(strOf l),(strOf m)] j λf g=>∃e:LB,∃d:Int,f=(.tuple ⟨[(strOf e),(.int .i64 d)]⟩)/\FW SS 142 [(strOf e),(.int .i64 d)] g λb c=>yS b λa=>Q (.tuple ⟨[(.bool p),(strOf a)]⟩) c))):FW SS 141 [(.bool p),(strOf l),(.bool q),(strOf m)] h Q:=du Tw Tryz.func141 (ai k)
noncomputable def XG:FD:=dq Tryz.f149 []
theorem Tq(l m:LB)(h:ae)(Q:VH)(N:FW SS 145 [(strOf l)] h λP D=>∃F:LV,∃H:Bool,P=(.tuple ⟨[(.agg ⟨F⟩),(.bool H)]⟩)/\xN (av SS.P 155) D λ_ I=>xU (ah SS.P 155 (pA (D.next)) (.agg ⟨F⟩) I) I λ_ M=>FW SS 145 [(strOf m)] M λO C=>∃J:LV,∃G:Bool,O=(.tuple ⟨[(.agg ⟨J⟩),(.bool G)]⟩)/\xN (av SS.P 155) C λ_ K=>xU (ah SS.P 155 (pA (C.next)) (.agg ⟨J⟩) K) K λ_ B=>au (!H) (Q (.int .i64 0) B) (au (!G) (Q (.int .i64 0) B) (fP 155 (pA (D.next)) 0 λE=>lB (room B 27) E λA=>fP 155 (pA (D.next)) 1 λR=>lS (room B 27) R λL=>fP 155 (pA (C.next)) 2 λz=>lS (room B 27) z λy=>FW SS 143 [(strOf L),(strOf y)] (room B 27) λw x=>∃v:LB,∃u:Int,w=(.tuple ⟨[(strOf v),(.int .i64 u)]⟩)/\FW SS 142 [(strOf v),(.int .i64 u)] x λs t=>yS s λr=>fP 155 (pA (C.next)) 0 λq=>lB t q λp=>fP 155 (pA (C.next)) 1 λo=>lS t o λn=>fP 155 (pA (D.next)) 2 λm=>lS t m λl=>FW SS 143 [(strOf n),(strOf l)] t λj k=>∃i:LB,∃h:Int,j=(.tuple ⟨[(strOf i),(.int .i64 h)]⟩)/\FW SS 142 [(strOf i),(.int .i64 h)] k λf g=>yS f λe=>FW SS 141 [(.bool A),(strOf r),(.bool (!p)),(strOf e)] g λc d=>∃b:Bool,∃a:LB,c=(.tuple ⟨[(.bool b),(strOf a)]⟩)/\(aj SS.P 4 x (.pointer (some E))=some (.bool A)/\dV 4 (.bool A) (.bool A)=true)/\(aj SS.P 4 t (.pointer (some E))=some (.bool A)/\dV 4 (.bool A) (.bool A)=true)/\(aj SS.P 4 k (.pointer (some E))=some (.bool A)/\dV 4 (.bool A) (.bool A)=true)/\(aj SS.P 4 g (.pointer (some E))=some (.bool A)/\dV 4 (.bool A) (.bool A)=true)/\(aj SS.P 4 (room B 27) (.pointer (some q))=some (.bool p)/\dV 4 (.bool p) (.bool p)=true)/\(aj SS.P 4 x (.pointer (some q))=some (.bool p)/\dV 4 (.bool p) (.bool p)=true)/\(aj SS.P 4 k (.pointer (some q))=some (.bool p)/\dV 4 (.bool p) (.bool p)=true)/\(aj SS.P 4 g (.pointer (some q))=some (.bool p)/\dV 4 (.bool p) (.bool p)=true)/\(aj SS.P 9 (room B 27) (.pointer (some o))=some (strOf n)/\dV 4 (strOf n) (strOf n)=true)/\(aj SS.P 9 x (.pointer (some o))=some (strOf n)/\dV 4 (strOf n) (strOf n)=true)/\(aj SS.P 9 (room B 27) (.pointer (some m))=some (strOf l)/\dV 4 (strOf l) (strOf l)=true)/\(aj SS.P 9 x (.pointer (some m))=some (strOf l)/\dV 4 (strOf l) (strOf l)=true)/\au ((a:LB)==[48]) (Q (.int .i64 0) d) (au b (Q (.int .i64 (-1)) d) (Q (.int .i64 1) d))))):FW SS 149 [(strOf l),(strOf m)] h Q:=du XG Tryz.func149 (ai N)
noncomputable def Wh:FD:=dq Tryz.f204 []
theorem Sm(l m:LB)(h:ae)(Q:VH)(b:au (decide ((((l:LB).length:Int):Int)>=((m:LB).length:Int))) (xS (cg SS.P 9 (strOf l) none (some (.int .i64 ((m:LB).length:Int))) none h) λa=>Q (.bool ((a:LB)==m)) h) (Q (.bool false) h)):FW SS 204 [(strOf l),(strOf m)] h Q:=du Wh Tryz.func204 (ai b)
noncomputable def iE:FD:=dq Tryz.f171 [([1,1,0,1,0,0],[0,22,23])]
abbrev pe(l:LB)(i:Int):LV:=[(strOf l),(.int .i64 (l.length:Int)),(.int .i64 i)]
theorem Dx(l:LB)(h:ae)(Q:VH)(b:au ((l:LB)==[]) (Q (.bool false) h) (au (decide ((((l:LB).length:Int):Int)>1000)) (Q (.bool false) h) (au (decide ((((l:LB).length:Int):Int)>1)) (xI .u8 (bZ SS.P 9 (strOf l) (.int .i64 0)) λa=>au (((a:Int)==48)) (Q (.bool false) h) (LL SS iE [1,1,0,1,0,0] [(strOf l),(.int .i64 ((l:LB).length:Int)),(.int .i64 0)] h (KK SS iE [1,1,0,1,0] [] (EE SS iE Q)))) (LL SS iE [1,1,0,1,0,0] [(strOf l),(.int .i64 ((l:LB).length:Int)),(.int .i64 0)] h (KK SS iE [1,1,0,1,0] [] (EE SS iE Q)))))):FW SS 171 [(strOf l)] h Q:=du iE Tryz.func171 (ai b)
theorem yZ(l:LB)  (d:Nat->Int->ae->Prop) (Q:VH) (step:∀(c:Nat)(i:Int)(f:Nat->Value)(h:ae),d c i h->au (decide ((i:Int)<(l.length:Int))) (xI .u8 (bZ SS.P 9 (strOf l) (.int .i64 i)) λb=>au (decide ((b:Int)<48)) (Q (.bool false) h) (xI .u8 (bZ SS.P 9 (strOf l) (.int .i64 i)) λa=>au (decide ((a:Int)>57)) (Q (.bool false) h) (aM (gp (pe l) d) c [(strOf l),(.int .i64 (l.length:Int)),(.int .i64 (wrap .i64 (i+1)))] h))) (Q (.bool true) h)) (c:Nat) {i:Int} {h:ae} (e:d c i h):LL SS iE [1,1,0,1,0,0] (pe l i) h (KK SS iE [1,1,0,1,0] [] (EE SS iE Q)):=
 dJ (pe l) d (λc i f h e=>ai (step c i f h e)) c e
noncomputable def iF:FD:=dq Tryz.f136 [([1,1,0,1,0,0],[0,3])]
abbrev iY(l:LB)(i:Int):LV:=[(strOf l),(.int .i64 i)]
theorem DC(l:LB)(h:ae)(Q:VH)(b:au (decide ((((l:LB).length:Int):Int)<1)) (Q (.bool false) h) (au (decide ((((l:LB).length:Int):Int)>1000)) (Q (.bool false) h) (xI .u8 (bZ SS.P 9 (strOf l) (.int .i64 0)) λa=>au (((a:Int)==48)) (au (decide ((((l:LB).length:Int):Int)>1)) (Q (.bool false) h) (LL SS iF [1,1,0,1,0,0] (iY l 0) h (KK SS iF [1,1,0,1,0] [] (EE SS iF Q)))) (LL SS iF [1,1,0,1,0,0] (iY l 0) h (KK SS iF [1,1,0,1,0] [] (EE SS iF Q)))))):FW SS 136 [(strOf l)] h Q:=du iF Tryz.func136 (ai b)
theorem zd(l:LB)  (d:Nat->Int->ae->Prop) (Q:VH) (step:∀(c:Nat)(i:Int)(f:Nat->Value)(h:ae),d c i h->au (decide ((i:Int)<((l:LB).length:Int))) (xI .u8 (bZ SS.P 9 (strOf l) (.int .i64 i)) λb=>au (decide ((b:Int)<48)) (Q (.bool false) h) (xI .u8 (bZ SS.P 9 (strOf l) (.int .i64 i)) λa=>au (decide ((a:Int)>57)) (Q (.bool false) h) (aM (gp (iY l) d) c [(strOf l),(.int .i64 (wrap .i64 (i+1)))] h))) (Q (.bool true) h)) (c:Nat) {i:Int} {h:ae} (e:d c i h):LL SS iF [1,1,0,1,0,0] (iY l i) h (KK SS iF [1,1,0,1,0] [] (EE SS iF Q)):=
 dJ (iY l) d (λc i f h e=>ai (step c i f h e)) c e
noncomputable def jB:FD:=dq Tryz.f154 [([1,1,0,1,0,0],[0,1,5])]
abbrev jC(a b:LB)(i:Int):LV:=[(strOf a),(strOf b),(.int .i64 i)]
theorem HH(a b:LB)(h:ae)(Q:VH)(c:au (((((a:LB).length:Int):Int) !=((b:LB).length:Int))) (au (decide ((((a:LB).length:Int):Int)<((b:LB).length:Int))) (Q (.int .i64 (-1)) h) (Q (.int .i64 1) h)) (LL SS jB [1,1,0,1,0,0] (jC a b 0) h (KK SS jB [1,1,0,1,0] [] (EE SS jB Q)))):FW SS 154 [(strOf a),(strOf b)] h Q:=du jB Tryz.func154 (ai c)
theorem vZ(a b:LB)  (g:Nat->Int->ae->Prop) (Q:VH) (step:∀(f:Nat)(i:Int)(k:Nat->Value)(h:ae),g f i h->au (decide ((i:Int)<((a:LB).length:Int))) (xI .u8 (bZ SS.P 9 (strOf a) (.int .i64 i)) λe=>xI .u8 (bZ SS.P 9 (strOf b) (.int .i64 i)) λd=>au (((e:Int) !=d)) (xI .u8 (bZ SS.P 9 (strOf a) (.int .i64 i)) λc=>xI .u8 (bZ SS.P 9 (strOf b) (.int .i64 i)) λa=>au (decide ((c:Int)<a)) (Q (.int .i64 (-1)) (room (room h 7) 7)) (Q (.int .i64 1) (room (room h 7) 7))) (aM (gp (jC a b) g) f [(strOf a),(strOf b),(.int .i64 (wrap .i64 (i+1)))] (room h 7))) (Q (.int .i64 0) h)) (f:Nat) {i:Int} {h:ae} (j:g f i h):LL SS jB [1,1,0,1,0,0] (jC a b i) h (KK SS jB [1,1,0,1,0] [] (EE SS jB Q)):=
 dJ (jC a b) g (λf i k h j=>ai (step f i k h j)) f j
noncomputable def abv:FD:=dq Tryz.f151 []
theorem XR(a:OA)(n c:Nat)(i:Int)(h:ae)(Q:VH)(d:au (decide ((i:Int)<(n:Int))) (iP 22 (.slice a n c) (.int .i64 i) λb=>lI h b λa=>Q (.int .i64 a) h) (Q (.int .i64 0) h)):FW SS 151 [(.slice a n c),(.int .i64 i)] h Q:=du abv Tryz.func151 (ai d)
noncomputable def lh:FD:=dq Tryz.f150 [([1,1,0,1,0,0],[0,3,4])]
abbrev oy(l:LB)(i:Int)(a:OA)(n c:Nat):LV:=[(strOf l),(.slice a n c),(.int .i64 i)]
theorem Kw(l:LB)(h:ae)(Q:VH)(a:LL SS lh [1,1,0,1,0,0] [(strOf l),nA,(.int .i64 (wrap .i64 (((l:LB).length:Int)-1)))] h (KK SS lh [1,1,0,1,0] [] (EE SS lh Q))):FW SS 150 [(strOf l)] h Q:=du lh Tryz.func150 (ai a)
theorem xr(l:LB)  (m:Nat->Int->OA->Nat->Nat->ae->Prop) (Q:VH) (step:∀(k:Nat)(i:Int)(a:OA)(n c:Nat)(p:Nat->Value)(h:ae),m k i a n c h->au (decide ((i:Int)>=0)) (xI .u8 (bZ SS.P 9 (strOf l) (.int .i64 i)) λj=>xR (aJ SS.P 22 1 [(0,(.int .i64 (wrap .i64 (wrap .u8 (j-48)))))]) h λ_ e f g=>xE (bR SS.P 22 22 (.slice a n c) (sA (h.next) e f) g) g λa b c _ d=>aM (LA4 (oy l) m) k [(strOf l),(.slice a b c),(.int .i64 (wrap .i64 (i-1)))] d) (Q (.slice a n c) h)) (k:Nat) {i:Int} {a:OA} {n c:Nat} {h:ae} (o:m k i a n c h):LL SS lh [1,1,0,1,0,0] (oy l i a n c) h (KK SS lh [1,1,0,1,0] [] (EE SS lh Q)):=
 Yd (oy l) m (λk i a n c p h o=>ai (step k i a n c p h o)) k o
variable{i:Nat}{a:Option Addr}{n:Nat}{x:List Nat}
theorem abR:SS.P.underlying 9=some .string:=by rfl
theorem DX(l:List UInt8){h:ae}{i:Int}(b:0<=i)(a:i<l.length):bZ SS.P 9 (strOf l) (.int .i64 i)=some (.int .u8 ((l.getD i.toNat 0).toNat:Nat)):=qL abR l _ b a
theorem VM{c:UInt8}(a:¬(c.toNat:Int)<48)(b:¬(c.toNat:Int)>57):ca c=true:=by grind[ca]
theorem J7{c:UInt8}(h:(c.toNat:Int)<48\/(c.toNat:Int)>57):ca c=false:=by grind[ca]
theorem zn(c:i<s.length)(a:(s.take i).all ca=true)(b:ca (s.getD i 0)=true):(s.take (i+1)).all ca=true:=by grind[List.take_succ_eq_append_getElem]
theorem yh(b:i<s.length)(a:ca (s.getD i 0)=false):s.all ca=false:=by grind
theorem GQ(h:1000<s.length):Num.valid s=false:=by grind[Num.valid]
theorem GR(h:1<s.length)(b:s.getD 0 0=48):Num.valid s=false:=by
 unfold Num.valid
 cases s with
 |nil=>rfl
 |cons a s=>grind
theorem yM(d:s≠[])(b:s.length<=1000)(c:1<s.length->s.getD 0 0≠48):Num.valid s=s.all ca:=by
 unfold Num.valid
 cases s with
 |nil=>grind
 |cons a s=>grind
theorem Ri{c:UInt8}:((c.toNat:Int)==48)=true↔c=48:=by
 rw[beq_iff_eq];refine⟨λh=>UInt8.toNat_inj.1 ?_,λh=>by rw[h];rfl⟩
 grind
theorem eo(l:List UInt8)(h:ae):FW SS 171 [strOf l] h (λv k=>v = .bool (Num.valid l)/\k=h):=by
 by_cases c:l.length<=1000
 case neg=>grind[Dx,aa,GQ]
 have L:=λ(o:Num.valid l=l.all ca)=>yZ l (λj i g=>0<=i/\i<=l.length/\j=l.length-i.toNat/\(l.take i.toNat).all ca=true/\g=h) (λv k=>v = .bool (Num.valid l)/\k=h) (by
  intro j i;intros;rename_i g t;obtain⟨a,q,p,f,rfl⟩:=t;refine aa (λd=>?_) (λd=>?_)
  ·have d:=dT d;have b:i.toNat<l.length:=by omega
   refine⟨_,DX (h:=g) l a d,aa (λn=>?_) (λn=>⟨_,DX (h:=g) l a d,aa (λm=>?_) (λm=>?_)⟩)⟩
   ·exact⟨by rw[o,yh b (J7 (.inl (dT n)))],rfl⟩
   ·exact⟨by rw[o,yh b (J7 (.inr (dT m)))],rfl⟩
   ·have s:wrap .i64 (i+1)=i+1:=aF (by omega) (by omega);refine cz (j-1) (by omega) ?_;rw[s];refine⟨by omega,by omega,by omega,?_,rfl⟩;rw[show(i+1).toNat=i.toNat+1 by omega];exact zn b f (VM (dF n) (dF m))
  grind[take_of_length_le])
 refine Dx l h _ (aa (λa=>?_) (λa=>aa (λq=>?_) (λq=>?_)))
 ·obtain rfl:l=[]:=by grind
  exact⟨rfl,rfl⟩
 ·grind
 ·have a:l≠[]:=by simpa using a
  have r:=List.length_pos_iff.2 a;refine aa (λp=>⟨_,DX (h:=h) l (by omega) (by omega),aa (λf=>?_) (λf=>?_)⟩) (λp=>?_)
  ·exact⟨by rw[GR (by grind) (Ri.1 f)],rfl⟩
  ·exact L (yM a c λ_ e=>by simp_all) l.length ⟨by omega,by omega,by simp,by simp,rfl⟩
  ·exact L (yM a c λe=>by grind) l.length ⟨by omega,by omega,by simp,by simp,rfl⟩
theorem dQ(l:List UInt8)(h:ae):FW SS 136 [strOf l] h (λv m=>v = .bool (Num.valid l)/\m=h):=by
 by_cases c:l.length<=1000
 case neg=>
  refine DC l h _ (aa (λa=>?_) (λa=>aa (λf=>?_) (λf=>?_)))
  ·have a:=dT a;omega
  all_goals grind[GQ]
 have L:=λ(p:Num.valid l=l.all ca)=>zd l (λk i g=>0<=i/\i<=l.length/\k=l.length-i.toNat/\(l.take i.toNat).all ca=true/\g=h) (λv m=>v = .bool (Num.valid l)/\m=h) (by
  intro k i;intros;rename_i g t;obtain⟨a,f,q,j,rfl⟩:=t;refine aa (λd=>?_) (λd=>?_)
  ·have d:=dT d;have b:i.toNat<l.length:=by omega
   refine⟨_,DX (h:=g) l a d,aa (λo=>?_) (λo=>⟨_,DX (h:=g) l a d,aa (λn=>?_) (λn=>?_)⟩)⟩
   ·exact⟨by rw[p,yh b (J7 (.inl (dT o)))],rfl⟩
   ·exact⟨by rw[p,yh b (J7 (.inr (dT n)))],rfl⟩
   ·have s:wrap .i64 (i+1)=i+1:=aF (by omega) (by omega);refine cz (k-1) (by omega) ?_;rw[s];refine⟨by omega,by omega,by omega,?_,rfl⟩;rw[show(i+1).toNat=i.toNat+1 by omega];exact zn b j (VM (dF o) (dF n))
  grind[take_of_length_le])
 refine DC l h _ (aa (λa=>?_) (λa=>aa (λf=>?_) (λf=>?_)))
 ·have a:=dT a;obtain rfl:l=[]:=List.eq_nil_of_length_eq_zero (by omega);exact⟨rfl,rfl⟩
 ·grind
 ·have a:=dF a;have a:l≠[]:=λe=>by grind
  have r:=List.length_pos_iff.2 a;refine⟨_,DX (h:=h) l (by omega) (by omega),aa (λj=>aa (λq=>?_) (λq=>?_)) (λj=>?_)⟩
  ·exact⟨by rw[GR (by grind) (Ri.1 j)],rfl⟩
  ·exact L (yM a c λe=>by grind) l.length ⟨by omega,by omega,by simp,by simp,rfl⟩
  ·exact L (yM a c λ_ e=>by simp_all) l.length ⟨by omega,by omega,by simp,by simp,rfl⟩
theorem WY{a b:Nat}(h:((a:Int) !=b)=true):a≠b:=by grind
theorem OI{a b:Nat}(h:((a:Int) !=b)=false):a=b:=by grind
theorem sZ(m n:Nat)(y:(ag m).length<9223372036854775807)(x:(ag n).length<9223372036854775807)(h:ae)(w:Wf h):FW SS 154 [strOf (ag m),strOf (ag n)] h (λv l=>v = .int .i64 (fm m n)/\Ok h l):=by
 have L:=λ(r:(ag m).length=(ag n).length)=>vZ (ag m) (ag n) (λe i g=>0<=i/\i<=(ag m).length/\e=(ag m).length-i.toNat/\(ag m).take i.toNat=(ag n).take i.toNat/\Ok h g) (λv l=>v = .int .i64 (fm m n)/\Ok h l) (by
  intro e i;intros;rename_i g u;obtain⟨a,s,z,o,p⟩:=u;refine aa (λd=>?_) (λd=>?_)
  ·have d:=dT d;have q:i.toNat<(ag m).length:=by omega
   have k:i.toNat<(ag n).length:=by omega
   have f:(ag m)[i.toNat]?=some ((ag m).getD i.toNat 0):=by rw[gD,gE q];rfl
   have j:(ag n)[i.toNat]?=some ((ag n).getD i.toNat 0):=by rw[gD,gE k];rfl
   refine⟨_,DX (h:=g) _ a d,_,DX (h:=g) _ a (by omega),aa (λb=>?_) (λb=>?_)⟩
   ·refine⟨_,DX (h:=g) _ a d,_,DX (h:=g) _ a (by omega),aa (λc=>?_) (λc=>?_)⟩
    ·have c:=dT c;have:=rf (dv n) (dv m) r o f j (UInt8.lt_iff_toNat_lt.2 (by omega));rw[bI,bI]at this;exact⟨by rw[oL this],(p.room 7).room 7⟩
    ·have c:=dF c;have b:=WY b;have:=rf (dv m) (dv n) r.symm o.symm j f (UInt8.lt_iff_toNat_lt.2 (by omega));rw[bI,bI]at this;exact⟨by rw[oK this],(p.room 7).room 7⟩
   ·have b:=OI b;have t:wrap .i64 (i+1)=i+1:=aF (by omega) (by omega);refine cz (e-1) (by omega) ?_;rw[t];refine⟨by omega,by omega,by omega,?_,p.room 7⟩;rw[show(i+1).toNat=i.toNat+1 by omega,List.take_add_one,List.take_add_one,o,f,j,UInt8.toNat_inj.1 b]
  grind[take_of_length_le,wv,tc])
 refine HH _ _ h _ (aa (λa=>aa (λs=>?_) (λs=>?_)) (λa=>?_))
 ·exact⟨by rw[oL (od (by grind))],Ok.refl w⟩
 ·grind[oK,od,Ok.refl]
 ·have a:=OI a;exact L a (ag m).length ⟨by omega,by omega,by simp,by simp,Ok.refl w⟩
def iv(d:Nat):Value:= .int .i64 (d:Int)
theorem xz:SS.P.underlying 22=some (.slice 3):=by rfl
theorem ZK:aI SS.P 3=some 1:=by rfl
theorem KL:SS.P.underlying 3=some (.int .i64):=by rfl
theorem JA:Go.Ab.isAgg SS.P 3=false:=by rfl
noncomputable def re3:TypeInfo:=(fE SS.P 3).getD default
theorem XN:fE SS.P 3=some re3:=by rfl
theorem M4:re3.size=1:=by rfl
theorem II:re3.bytes=8:=by rfl
theorem wO(l:List Nat)(i:Nat)(h:i<l.length):(l.map iv).getD i undef = .int .i64 (l.getD i 0:Nat):=by grind[iv]
theorem xq{c:Nat}(r:Rd h 3 (.slice a n c) (x.map iv))(i:Nat):FW SS 151 [.slice a n c,.int .i64 (i:Int)] h (λv g=>v = .int .i64 (x.getD i 0:Nat)/\g=h):=by
 have e:=r.len;rw[lM]at e;refine XR a n c i h _ (aa (λb=>?_) (λb=>?_))
 ·have b:=dT b;obtain⟨p,f,d⟩:=r.at_ xz ZK KL JA (k:= .i64) (i:=(i:Int)) (by omega) (by rw[lM];omega);rw[Int.toNat_natCast,wO x i (by omega)]at d;exact⟨p,f,_,d,rfl,rfl⟩
 grind
noncomputable def pg:FD:=dq Tryz.f155 [([1,1,1,0,1,0,0],[0,1,5,6,7])]
abbrev jH(a:OA)(n c:Nat)(b:OA)(m d:Nat)(k cc:Nat)(r:OA)(e f:Nat):LV:=[(.slice a n c),(.slice b m d),(.slice r e f),(iA cc),(iA k)]
theorem Py(a:OA)(n c:Nat)(b:OA)(m d:Nat)(h:ae)(Q:VH)(e:LL SS pg [1,1,1,0,1,0,0] (jH a n c b m d 0 0 none 0 0) h (KK SS pg [1,1,1,0,1,0] [] (EE SS pg Q))):FW SS 155 [(.slice a n c),(.slice b m d)] h Q:=du pg Tryz.func155 (ai e)
theorem Am(a:OA)(n c:Nat)(b:OA)(m d:Nat)  (x:Nat->Nat->Nat->OA->Nat->Nat->ae->Prop) (Q:VH) (step:∀(y:Nat)(k cc:Nat)(r:OA)(v w:Nat)(A:Nat->Value)(h:ae),x y k cc r v w h->au (decide (((k:Int):Int)<(n:Int))) (FW SS 151 [(.slice a n c),(iA k)] h λt u=>yI .i64 t λs=>FW SS 151 [(.slice b m d),(iA k)] u λp q=>yI .i64 p λo=>au (decide ((wrap .i64 (wrap .i64 (s-o)-(cc:Int)):Int)<0)) (xR (aJ SS.P 22 1 [(0,(.int .i64 (wrap .i64 (wrap .i64 (wrap .i64 (s-o)-(cc:Int))+10))))]) q λ_ i j l=>xE (bR SS.P 22 22 (.slice r v w) (sA (q.next) i j) l) l λe f g _ h=>aM (ED (jH a n c b m d) x) y [(.slice a n c),(.slice b m d),(.slice e f g),(.int .i64 1),(.int .i64 (wrap .i64 ((k:Int)+1)))] h) (xR (aJ SS.P 22 1 [(0,(.int .i64 (wrap .i64 (wrap .i64 (s-o)-(cc:Int)))))]) q λ_ i j l=>xE (bR SS.P 22 22 (.slice r v w) (sA (q.next) i j) l) l λe f g _ h=>aM (ED (jH a n c b m d) x) y [(.slice a n c),(.slice b m d),(.slice e f g),(.int .i64 0),(.int .i64 (wrap .i64 ((k:Int)+1)))] h)) (Q (.slice r v w) h)) (y:Nat) {k cc:Nat} {r:OA} {v w:Nat} {h:ae} (z:x y k cc r v w h):LL SS pg [1,1,1,0,1,0,0] (jH a n c b m d k cc r v w) h (KK SS pg [1,1,1,0,1,0] [] (EE SS pg Q)):=
 IQ (jH a n c b m d) x (λy k cc r v w A h z=>ai (step y k cc r v w A h z)) y z
noncomputable def fi:FD:=dq Tryz.f153 [([1,1,0,0,0],[0,3]),([1,1,1,1,0,1,0,0],[0,4,5])]
abbrev qm(a:OA)(n c:Nat)(z:Int):LV:=[(.slice a n c),(.int .i64 z)]
abbrev jI(a:OA)(n c:Nat)(i:Int)(r:OA)(b d:Nat):LV:=[(.slice a n c),(.slice r b d),(.int .i64 i)]
theorem Pz(a:OA)(n c:Nat)(h:ae)(Q:VH)(b:LL SS fi [1,1,0,0,0] [(.slice a n c),(iA n)] h (KK SS fi [1,1,0,0] [] (EE SS fi Q))):FW SS 153 [(.slice a n c)] h Q:=du fi Tryz.func153 (ai b)
theorem An(a:OA)(n c:Nat)  (f:Nat->Int->ae->Prop) (Q:VH) (step:∀(e:Nat)(z:Int)(i:Nat->Value)(h:ae),f e z h->au (decide ((z:Int)>1)) (iP 22 (.slice a n c) (.int .i64 (wrap .i64 (z-1))) λd=>lI h d λb=>au (((b:Int)==0)) (aM (gp (qm a n c) f) e [(.slice a n c),(.int .i64 (wrap .i64 (z-1)))] h) (LL SS fi [1,1,1,1,0,1,0,0] (jI a n c (wrap .i64 (z-1)) none 0 0) h (KK SS fi [1,1,1,1,0,1,0] [] (EE SS fi Q)))) (LL SS fi [1,1,1,1,0,1,0,0] (jI a n c (wrap .i64 (z-1)) none 0 0) h (KK SS fi [1,1,1,1,0,1,0] [] (EE SS fi Q)))) (e:Nat) {z:Int} {h:ae} (g:f e z h):LL SS fi [1,1,0,0,0] (qm a n c z) h (KK SS fi [1,1,0,0] [] (EE SS fi Q)):=
 dJ (qm a n c) f (λe z i h g=>ai (step e z i h g)) e g
theorem Ao(a:OA)(n c:Nat)  (s:Nat->Int->OA->Nat->Nat->ae->Prop) (Q:VH) (step:∀(q:Nat)(i:Int)(r:OA)(o p:Nat)(u:Nat->Value)(h:ae),s q i r o p h->au (decide ((i:Int)>=0)) (iP 22 (.slice a n c) (.int .i64 i) λm=>lI h m λl=>xR (aJ SS.P 172 1 [(0,(.int .u8 (wrap .u8 (wrap .i64 (48+l)))))]) h λ_ g j k=>xE (bR SS.P 172 172 (.slice r o p) (sA (h.next) g j) k) k λb d e _ f=>aM (LA4 (jI a n c) s) q [(.slice a n c),(.slice b d e),(.int .i64 (wrap .i64 (i-1)))] f) (au ((((o:Int):Int)==0)) (Q (strOf [48]) h) (xS (D5 SS.P 172 9 (.slice r o p) h) λa=>Q (strOf a) h))) (q:Nat) {i:Int} {r:OA} {o p:Nat} {h:ae} (t:s q i r o p h):LL SS fi [1,1,1,1,0,1,0,0] (jI a n c i r o p) h (KK SS fi [1,1,1,1,0,1,0] [] (EE SS fi Q)):=
 Yd (jI a n c) s (λq i r o p u h t=>ai (step q i r o p u h t)) q t
variable{g:ae}{m:Nat}{y:List Nat}
theorem R6(z:Int):aJ SS.P 22 1 [(0,.int .i64 z)]=some (.cells [.int .i64 z] 3 1 true,ph 1 1):=by kernel_rfl
theorem acy(z:Int):aJ SS.P 172 1 [(0,.int .u8 z)]=some (.cells [.int .u8 z] 5 1 true,ph 1 1):=by kernel_rfl
theorem DF:SS.P.underlying 172=some (.slice 5):=by kernel_rfl
theorem un5:SS.P.underlying 5=some (.int .u8):=by kernel_rfl
theorem zz5:aI SS.P 5=some 1:=by kernel_rfl
theorem ag5:Go.Ab.isAgg SS.P 5=false:=by kernel_rfl
noncomputable def re5:TypeInfo:=(fE SS.P 5).getD default
theorem adX:fE SS.P 5=some re5:=by kernel_rfl
theorem XO:re5.size=1:=by kernel_rfl
theorem Tz:re5.bytes=1:=by kernel_rfl
theorem GD(d:Wf g)(e:Ok g h){v:Value}{a:List Value}(o:eO g h 3 v a)(z:Int)(f:a.length<=100000):
  ∃(b:Option Addr)(n c:Nat)(u:eu),bR SS.P 22 22 v (.slice (some ⟨h.next,0,none⟩) 1 1) (h.push (.cells [.int .i64 z] 3 1 true))=some (.slice b n c,u)/\n=a.length+1/\eO g (u.app (h.push (.cells [.int .i64 z] 3 1 true))) 3 (.slice b n c) (a++[.int .i64 z])/\Ok g (u.app (h.push (.cells [.int .i64 z] 3 1 true))):=
 eO.snoc xz XN M4 d e o rfl (by rw[II];omega) (by omega)
theorem Rb(d:Wf g)(e:Ok g h){v:Value}{a:List Value}(o:eO g h 5 v a)(z:Int)(f:a.length<=100000):
  ∃(b:Option Addr)(n c:Nat)(u:eu),bR SS.P 172 172 v (.slice (some ⟨h.next,0,none⟩) 1 1) (h.push (.cells [.int .u8 z] 5 1 true))=some (.slice b n c,u)/\n=a.length+1/\eO g (u.app (h.push (.cells [.int .u8 z] 5 1 true))) 5 (.slice b n c) (a++[.int .u8 z])/\Ok g (u.app (h.push (.cells [.int .u8 z] 5 1 true))):=
 eO.snoc DF adX XO d e o rfl (by rw[Tz];omega) (by omega)
theorem Sh(c:UInt8)(l:List UInt8):gw (c::l)=gw l++[kF c]:=by simp[gw]
theorem Ii(h:i<s.length):s.drop i=s.getD i 0::s.drop (i+1):=by
 rw[gD,gE h,List.drop_eq_getElem_cons h];rfl
theorem E9(a:s.all ca=true){i:Nat}(h:i<s.length):ca (s.getD i 0)=true:=by
 rw[gD,gE h];exact all_eq_true.1 a _ (getElem_mem h)
def jS(h:ae)(e:TypeId)(d:List Value):VH:=λv b=>∃a n c,v = .slice a n c/\eO h b e (.slice a n c) d/\Ok h b
theorem vf(l:List UInt8)(C:l.all ca=true)(t:l.length<=100000)(h:ae)(w:Wf h):FW SS 150 [strOf l] h (jS h 3 ((gw l).map iv)):=by
 have L:=xr l (λk i a n c g=> -1<=i/\i<l.length/\k=(i+1).toNat/\eO h g 3 (.slice a n c) ((gw (l.drop (i+1).toNat)).map iv)/\Ok h g) (jS h 3 ((gw l).map iv)) (by
  intro k i a n c;intros;rename_i g y;obtain⟨F,x,E,r,s⟩:=y;refine aa (λf=>?_) (λf=>?_)
  ·have f:=dT f;have j:i.toNat<l.length:=by omega
   have p:=E9 C j;have D:=nu.1 p;refine⟨_,DX (h:=g) l f x,_,_,_,R6 _,?_⟩;obtain⟨b,m,d,u,B,G,o,z⟩:=GD w s r (wrap .i64 (wrap .u8 ((((l.getD i.toNat 0).toNat:Nat):Int)-48))) (by simp[gw];omega);refine⟨b,m,d,u,B,?_⟩;have e:wrap .i64 (i-1)=i-1:=aF (by omega) (by omega);refine We (k-1) (by omega) ?_;rw[e];refine⟨by omega,by omega,by omega,?_,z⟩;have q:wrap .i64 (wrap .u8 ((((l.getD i.toNat 0).toNat:Nat):Int)-48))=((kF (l.getD i.toNat 0):Nat):Int):=by
    rw[vJ (by omega) (by omega),aF (by omega) (by omega)];unfold kF;omega
   rw[q]at o;have A:(i-1+1).toNat=i.toNat:=by omega
   have v:(i+1).toNat=i.toNat+1:=by omega
   rw[v]at o;rw[q,A,Ii j,Sh,map_append];exact o
  ·have f:=dF f;obtain rfl:i = -1:=by omega
   exact⟨a,n,c,rfl,r,s⟩)
 have e:wrap .i64 ((l.length:Int)-1)=(l.length:Int)-1:=aF (by omega) (by omega);refine Kw l h _ ?_;refine L l.length ⟨by rw[e];omega,by rw[e];omega,by rw[e];omega,?_,Ok.refl w⟩;rw[e,show((l.length:Int)-1+1).toNat=l.length by omega,List.drop_length];exact .inl ⟨rfl,rfl⟩
theorem Gu{b:Option Addr}{c:Nat}(N:Rd h 3 (.slice a n c) (x.map iv))(S:Rd h 3 (.slice b m i) (y.map iv))(R:∀i∈x,i<10)(U:∀i∈y,i<10)(O:x.length<=100000)(w:Wf h):
  FW SS 155 [.slice a n c,.slice b m i] h (jS h 3 ((bD gi x y 0 x.length 0).map iv)):=by
 have W:n=x.length:=by have:=N.len;rwa[lM]at this
 have J:∀k,fH gi x y 0 0 k<=1:=Qn (λp q c _=>by unfold gi;split<;>simp) x y 0 0 (by omega);have L:=Am a n c b m i (λt k cc r z B g=>k<=x.length/\t=x.length-k/\cc=fH gi x y 0 0 k/\eO h g 3 (.slice r z B) ((bD gi x y 0 k 0).map iv)/\Ok h g) (jS h 3 ((bD gi x y 0 x.length 0).map iv)) (by
  intro t k cc r z B;intros;rename_i g T;obtain⟨X,Z,P,F,o⟩:=T;have V:=J k;have hp:=bm (by omega) R k;have Y:=bm (by omega) U k;refine aa (λs=>?_) (λs=>?_)
  ·have s:=dT s;refine(xq (N.ok o) k).mono ?_;rintro _ _ ⟨rfl,rfl⟩;refine⟨_,rfl,(xq (S.ok o) k).mono ?_⟩;rintro _ _ ⟨rfl,rfl⟩;refine⟨_,rfl,?_⟩;have M:wrap .i64 (((x.getD k 0:Nat):Int)-((y.getD k 0:Nat):Int))=((x.getD k 0:Nat):Int)-((y.getD k 0:Nat):Int):=aF (by omega) (by omega);have I:wrap .i64 (((x.getD k 0:Nat):Int)-((y.getD k 0:Nat):Int)-(cc:Int))=((x.getD k 0:Nat):Int)-((y.getD k 0:Nat):Int)-(cc:Int):=aF (by omega) (by omega);have K:wrap .i64 ((k:Int)+1)=((k+1:Nat):Int):=by rw[aF (by omega) (by omega)];omega
   dsimp only;rw[M,I,K];have v:(bD gi x y 0 k 0).length=k:=fJ _ _ _ _ _ _;have f:=jl gi x y k 0 0;have j:fH gi x y 0 0 (k+1)=(gi (x.getD (0+k) 0) (y.getD (0+k) 0) (fH gi x y 0 0 k)).2:=rfl;rw[Nat.zero_add,<-P]at f j;refine aa (λl=>?_) (λl=>?_)
   ·have l:=dT l;refine⟨_,_,_,R6 _,?_⟩;obtain⟨E,C,A,u,D,Q,e,H⟩:=GD w o F (wrap .i64 (((x.getD k 0:Nat):Int)-((y.getD k 0:Nat):Int)-(cc:Int)+10)) (by rw[lM,v];omega);refine⟨E,C,A,u,D,?_⟩;have d:gi (x.getD k 0) (y.getD k 0) cc=(x.getD k 0+10-y.getD k 0-cc,1):=by unfold gi;rw[if_pos (by omega)]
    refine rz (b:=1) (t-1) (by omega) ⟨by omega,by omega,by rw[j,d],?_,H⟩;rw[f,d,map_append];have G:wrap .i64 (((x.getD k 0:Nat):Int)-((y.getD k 0:Nat):Int)-(cc:Int)+10)=((x.getD k 0+10-y.getD k 0-cc:Nat):Int):=by rw[aF (by omega) (by omega)];omega
    rw[G]at e⊢;exact e
   ·have l:=dF l;refine⟨_,_,_,R6 _,?_⟩;obtain⟨E,C,A,u,D,Q,e,H⟩:=GD w o F (((x.getD k 0:Nat):Int)-((y.getD k 0:Nat):Int)-(cc:Int)) (by rw[lM,v];omega);refine⟨E,C,A,u,D,?_⟩;have d:gi (x.getD k 0) (y.getD k 0) cc=(x.getD k 0-y.getD k 0-cc,0):=by unfold gi;rw[if_neg (by omega)]
    refine rz (b:=0) (t-1) (by omega) ⟨by omega,by omega,by rw[j,d],?_,H⟩;rw[f,d,map_append];have G:((x.getD k 0:Nat):Int)-((y.getD k 0:Nat):Int)-(cc:Int)=((x.getD k 0-y.getD k 0-cc:Nat):Int):=by omega
    rw[G]at e⊢;exact e
  ·have s:=dF s;obtain rfl:k=x.length:=by omega
   exact⟨r,z,B,rfl,F,o⟩)
 exact Py a n c b m i h _ (L x.length (k:=0) (cc:=0) ⟨by omega,by omega,rfl,.inl ⟨rfl,rfl⟩,Ok.refl w⟩)
theorem Rc(r:Rd h 5 v (s.map vW)):D5 SS.P 172 9 v h=some (strOf s):=abS DF abR un5 r
theorem HM{z:Nat}(b:i<z)(c:z<=x.length):((x.take z).drop i).reverse=((x.take z).drop (i+1)).reverse++[x.getD i 0]:=by
 have a:i<(x.take z).length:=by rw[length_take];omega
 rw[List.drop_eq_getElem_cons a,List.reverse_cons,List.getElem_take,gD,gE (by omega)];rfl
theorem vh{c:Nat}(L:Rd h 3 (.slice a n c) (x.map iv))(P:∀d∈x,d<10)(V:x.length<=100000)(w:Wf h):
  FW SS 153 [.slice a n c] h (λv D=>v=strOf (ag (Num.bv 10 x))/\Ok h D):=by
 have hn:n=x.length:=by have:=L.len;rwa[lM]at this
 have Q:=λ(f:Nat) (hz:f<=x.length) (T:0<x.length->0<f) (W:0<x.length->wA (x.take f)=ag (Num.bv 10 x))=>Ao a n c (λy i r H R g=> -1<=i/\i<(f:Int)/\y=(i+1).toNat/\eO h g 5 (.slice r H R) ((((x.take f).drop (i+1).toNat).reverse.map fI).map vW)/\Ok h g) (λv D=>v=strOf (ag (Num.bv 10 x))/\Ok h D) (by
  intro y i r H R;intros;rename_i g M;obtain⟨h1,h2,Y,t,J⟩:=M;refine aa (λq=>?_) (λq=>?_)
  ·have q:=dT q;obtain⟨p,K,F⟩:=(L.ok J).at_ xz ZK KL JA (k:= .i64) (i:=i) q (by rw[lM];omega);rw[wO x i.toNat (by omega)]at F;refine⟨p,K,_,F,_,_,_,acy _,?_⟩;have N:=bm (by omega) P i.toNat;obtain⟨b,m,d,u,g6,g7,O,g9⟩:=Rb w J t (wrap .u8 (wrap .i64 (48+((x.getD i.toNat 0:Nat):Int)))) (by simp;omega);refine⟨b,m,d,u,g6,?_⟩;have I:wrap .i64 (i-1)=i-1:=aF (by omega) (by omega);refine We (y-1) (by omega) ?_;rw[I];refine⟨by omega,by omega,by omega,?_,g9⟩;rw[show(i-1+1).toNat=i.toNat by omega,HM (by omega) hz,map_append,map_append];rw[show(i+1).toNat=i.toNat+1 by omega]at O;have X:vW (fI (x.getD i.toNat 0)) = .int .u8 (wrap .u8 (wrap .i64 (48+((x.getD i.toNat 0:Nat):Int)))):=by
    unfold vW;rw[kH N,aF (by omega) (by omega),vJ (by omega) (by omega)]
    first|rfl|(congr 1;omega)
   show eO h _ 5 _ (_++[vW (fI (x.getD i.toNat 0))]);rw[X];exact O
  ·have q:=dF q;obtain rfl:i = -1:=by omega
   have e0:((-1:Int)+1).toNat=0:=rfl;rw[e0,drop_zero]at t;have S:=t.len;simp only[lM,List.length_reverse,length_take]at S;refine aa (λo=>?_) (λo=>?_)
   ·have o:(H:Int)=0:=by simpa using o
    have E:x=[]:=by
     rcases Nat.eq_zero_or_pos x.length with e|e
     ·exact List.eq_nil_of_length_eq_zero e
     ·have:=T e;omega
    subst E;exact⟨by rw[show Num.bv 10 []=0 from rfl,qv],J⟩
   ·have o:¬(H:Int)=0:=by simpa using o
    have E:0<x.length:=by omega
    have:=Rc t.rd;rw[show((x.take f).reverse.map fI)=wA (x.take f)from rfl,W E]at this;exact⟨_,this,rfl,J⟩)
 have s:∀(f:Nat),eO h h 5 (.slice none 0 0) ((((x.take f).drop ((f:Int)-1+1).toNat).reverse.map fI).map vW):=λf=>by
  rw[show((f:Int)-1+1).toNat=f by omega,List.drop_of_length_le (by rw[length_take];omega)];exact .inl ⟨rfl,rfl⟩
 have L1:=An a n c (λy z g=>0<=z/\z<=x.length/\y=z.toNat/\(0<x.length->0<z)/\(∀j:Nat,z<=j->x.getD j 0=0)/\g=h) (λv D=>v=strOf (ag (Num.bv 10 x))/\Ok h D) (by
  intro y z;intros;rename_i g M;obtain⟨h1,h2,Y,t,q,rfl⟩:=M;obtain⟨f,rfl⟩:∃f:Nat,z=f:=⟨z.toNat,by omega⟩
  have I:wrap .i64 ((f:Int)-1)=(f:Int)-1:=aF (by omega) (by omega);have B:(1<f->x.getD (f-1) 0≠0)->0<x.length->wA (x.take f)=ag (Num.bv 10 x):=λZ C=>by
   rw[<-EK (l:=x) (n:=f) (λj U=>q j (by omega))];refine Rx (λd N=>P d (List.mem_of_mem_take N)) (λe=>?_) (λA=>?_)
   ·have:=congrArg List.length e;rw[length_take]at this;have h9:min f x.length=0:=this;have:=t C;omega
   ·rw[length_take]at A;have G:=Z (by omega);rw[List.getLast?_eq_getElem?,length_take,List.getElem?_take,if_pos (by omega)];rw[gD,gE (by omega)]at G;rw[show min f x.length-1=f-1 by omega,gE (by omega)];simpa using G
  refine aa (λo=>?_) (λo=>?_)
  ·have o:=dT o;rw[I];obtain⟨p,K,F⟩:=L.at_ xz ZK KL JA (k:= .i64) (i:=(f:Int)-1) (by omega) (by rw[lM];omega);rw[wO x _ (by omega),show((f:Int)-1).toNat=f-1 by omega]at F;refine⟨p,K,_,F,aa (λA=>?_) (λA=>?_)⟩
   ·have A:((x.getD (f-1) 0:Nat):Int)=0:=by simpa using A
    refine cz (y-1) (by omega) ⟨by omega,by omega,by omega,λ_=>by omega,λj U=>?_,rfl⟩;rcases lt_or_ge j f with G|G
    ·obtain rfl:j=f-1:=by omega
     omega
    ·exact q j (by omega)
   ·have A:¬((x.getD (f-1) 0:Nat):Int)=0:=by simpa using A
    exact Q f (by omega) (λC=>by have:=t C;omega) (B λ_=>by omega) f ⟨by omega,by omega,by omega,s f,Ok.refl w⟩
  ·have o:=dF o;rw[I];exact Q f (by omega) (λC=>by have:=t C;omega) (B λhh=>by omega) f ⟨by omega,by omega,by omega,s f,Ok.refl w⟩)
 refine Pz a n c h _ (L1 n (z:=(n:Int)) ⟨by omega,by omega,by omega,λC=>by omega,λj U=>?_,rfl⟩);rw[gD,List.getElem?_eq_none (by omega)];rfl
noncomputable def da:FD:=dq Tryz.f137 [([1,1,1,1,1,0,1,0,0],[0,1,7,8,9]),([1,1,1,1,1,0,1,0,0,1,0,0,1,1,0,0,0],[0,1,7,8,9,10]),([1,1,1,1,1,1,1,0,0,0],[0,1,7,8,11])]
abbrev gY(a b:LB)(k:Nat)(r:LB)(q:OA)(d c:Nat):LV:=[(strOf a),(strOf b),(.slice q d c),(strOf r),(iA k)]
abbrev lj(a b:LB)(k:Nat)(q:OA)(e c:Nat)(r:LB)(d:Int):LV:=[(strOf a),(strOf b),(.slice q e c),(strOf r),(iA k),(.int .u8 d)]
abbrev oz(a b r:LB)(q:OA)(d c:Nat)(z:Nat):LV:=[(strOf a),(strOf b),(.slice q d c),(strOf r),(iA z)]
theorem TL(a b:LB)(h:ae)(Q:VH)(i:FW SS 136 [(strOf a)] h λg h=>yB g λf=>au (!f) (Q (.tuple ⟨[(strOf []),(strOf []),(.int .i64 1)]⟩) h) (FW SS 136 [(strOf b)] h λd e=>yB d λc=>au (!c) (Q (.tuple ⟨[(strOf []),(strOf []),(.int .i64 1)]⟩) e) (au ((b:LB)==[48]) (Q (.tuple ⟨[(strOf []),(strOf []),(.int .i64 4)]⟩) e) (LL SS da [1,1,1,1,1,0,1,0,0] (gY a b 0 ([48]) none 0 0) e (KK SS da [1,1,1,1,1,0,1,0] [] (EE SS da Q)))))):FW SS 137 [(strOf a),(strOf b)] h Q:=du da Tryz.func137 (ai i)
theorem Bq(a b:LB)  (g:Nat->Nat->LB->OA->Nat->Nat->ae->Prop) (Q:VH) (step:∀(i:Nat)(k:Nat)(r:LB)(q:OA)(f e:Nat)(l:Nat->Value)(h:ae),g i k r q f e h->au (decide (((k:Int):Int)<((a:LB).length:Int))) (au ((r:LB)==[48]) (xS (cg SS.P 9 (strOf a) (some (iA k)) (some (.int .i64 (wrap .i64 ((k:Int)+1)))) none h) λc=>LL SS da [1,1,1,1,1,0,1,0,0,1,0,0,1,1,0,0,0] (lj a b k q f e c 48) h (KK SS da [1,0,0,1,1,0,0] [1,1,1,1,1,0,1,0,0] (RR da [1,1,1,1,1,0,1,0,0] (ED (gY a b) g) i (KK SS da [1,1,1,1,1,0,1,0] [] (EE SS da Q))))) (xS (cg SS.P 9 (strOf a) (some (iA k)) (some (.int .i64 (wrap .i64 ((k:Int)+1)))) none h) λd=>xS (aB SS.P .add 9 (strOf r) (strOf d)) λc=>LL SS da [1,1,1,1,1,0,1,0,0,1,0,0,1,1,0,0,0] (lj a b k q f e c 48) h (KK SS da [1,0,0,1,1,0,0] [1,1,1,1,1,0,1,0,0] (RR da [1,1,1,1,1,0,1,0,0] (ED (gY a b) g) i (KK SS da [1,1,1,1,1,0,1,0] [] (EE SS da Q)))))) (LL SS da [1,1,1,1,1,1,1,0,0,0] (oz a b r q f e 0) h (KK SS da [1,1,1,1,1,1,1,0,0] [] (EE SS da Q)))) (i:Nat) {k:Nat} {r:LB} {q:OA} {f e:Nat} {h:ae} (j:g i k r q f e h):LL SS da [1,1,1,1,1,0,1,0,0] (gY a b k r q f e) h (KK SS da [1,1,1,1,1,0,1,0] [] (EE SS da Q)):=
 IQ (gY a b) g (λi k r q f e l h j=>ai (step i k r q f e l h j)) i j
theorem Br(a b:LB)(E:Nat->Nat->LB->OA->Nat->Nat->ae->Prop)(G k:Nat)(q:OA)(D C:Nat)(B:Nat->LB->Int->ae->Prop)(Q:VH)(step:∀(A:Nat) (r:LB) (d:Int) (H:Nat->Value) (h:ae),B A r d h->FW SS 154 [(strOf r),(strOf b)] h λy z=>yI .i64 y λx=>au (decide ((x:Int)>=0)) (FW SS 150 [(strOf r)] z λv w=>yL v λs t u=>FW SS 150 [(strOf b)] w λp r=>yL p λm n o=>FW SS 155 [(.slice s t u),(.slice m n o)] r λj l=>yL j λg h i=>FW SS 153 [(.slice g h i)] l λe f=>yS e λc=>aM (tE (lj a b k q D C) B) A [(strOf a),(strOf b),(.slice q D C),(strOf c),(iA k),(.int .u8 (wrap .u8 (d+1)))] f) (xR (aJ SS.P 172 1 [(0,(.int .u8 d))]) z λ_ g h i=>xE (bR SS.P 172 172 (.slice q D C) (sA (z.next) g h) i) i λc d e _ f=>aM (ED (gY a b) E) G [(strOf a),(strOf b),(.slice c d e),(strOf r),(.int .i64 (wrap .i64 ((k:Int)+1)))] f))(A:Nat){r:LB}{d:Int}{h:ae}(F:B A r d h):LL SS da [1,1,1,1,1,0,1,0,0,1,0,0,1,1,0,0,0] (lj a b k q D C r d) h (KK SS da [1,0,0,1,1,0,0] [1,1,1,1,1,0,1,0,0] (RR da [1,1,1,1,1,0,1,0,0] (ED (gY a b) E) G (KK SS da [1,1,1,1,1,0,1,0] [] (EE SS da Q)))):=
 pU (lj a b k q D C) B (λA r d H h F=>ai (step A r d H h F)) A F
theorem Bs(a b:LB)(r:LB)(q:OA)(g j:Nat)(k:Nat->Nat->ae->Prop)(Q:VH)(step:∀(i:Nat) (z:Nat) (m:Nat->Value) (h:ae),k i z h->au (decide (((z:Int):Int)<wrap .i64 ((g:Int)-1))) (iP 172 (.slice q g j) (iA z) λf=>xI .u8 (aj SS.P 5 h (.pointer (some f))) λe=>au (((e:Int)==48)) (aM (gp (oz a b r q g j) k) i [(strOf a),(strOf b),(.slice q g j),(strOf r),(.int .i64 (wrap .i64 ((z:Int)+1)))] h) (xL (cg SS.P 172 (.slice q g j) (some (iA z)) none none h) λb c d=>xS (D5 SS.P 172 9 (.slice b c d) h) λa=>Q (.tuple ⟨[(strOf a),(strOf r),(.int .i64 0)]⟩) h)) (xL (cg SS.P 172 (.slice q g j) (some (iA z)) none none h) λb c d=>xS (D5 SS.P 172 9 (.slice b c d) h) λa=>Q (.tuple ⟨[(strOf a),(strOf r),(.int .i64 0)]⟩) h))(i:Nat){z:Nat}{h:ae}(l:k i z h):LL SS da [1,1,1,1,1,1,1,0,0,0] (oz a b r q g j z) h (KK SS da [1,1,1,1,1,1,1,0,0] [] (EE SS da Q)):=
 dJ (oz a b r q g j) k (λi z m h l=>ai (step i z m h l)) i l
noncomputable def rM:FD:=dq Tryz.f118 [([1,1,0,0,0],[0,1])]
abbrev oA  (x y:LB):LV:=[(strOf x),(strOf y)]
theorem TM(a b:LB)(h:ae)(Q:VH)(i:FW SS 136 [(strOf a)] h λg h=>yB g λf=>au (!f) (Q (.tuple ⟨[(strOf []),(.int .i64 1)]⟩) h) (FW SS 136 [(strOf b)] h λd e=>yB d λc=>au (!c) (Q (.tuple ⟨[(strOf []),(.int .i64 1)]⟩) e) (LL SS rM [1,1,0,0,0] (oA a b) e (KK SS rM [1,1,0,0] [] (EE SS rM Q))))):FW SS 118 [(strOf a),(strOf b)] h Q:=du rM Tryz.func118 (ai i)
theorem Bt(a b:LB)  (g:Nat->LB->LB->ae->Prop) (Q:VH) (step:∀(f:Nat)(x y:LB)(j:Nat->Value)(h:ae),g f x y h->au (!((y:LB)==[48])) (FW SS 137 [(strOf x),(strOf y)] h λd e=>∃c:LB,∃b:LB,∃a:Int,d=(.tuple ⟨[(strOf c),(strOf b),(.int .i64 a)]⟩)/\aM (tE oA g) f [(strOf y),(strOf b)] e) (Q (.tuple ⟨[(strOf x),(.int .i64 0)]⟩) h)) (f:Nat) {x y:LB} {h:ae} (i:g f x y h):LL SS rM [1,1,0,0,0] (oA  x y) h (KK SS rM [1,1,0,0] [] (EE SS rM Q)):=
 pU oA g (λf x y j h i=>ai (step f x y j h i)) f i
variable{k:Nat}
theorem Yq(l:List UInt8){h:ae}{a b:Nat}(c:a<=b)(d:b<=l.length):cg SS.P 9 (strOf l) (some (.int .i64 (a:Int))) (some (.int .i64 (b:Int))) none h=some (strOf ((l.drop a).take (b-a))):=qM abR l rfl rfl c d
theorem Xa(h:k<s.length):(s.drop k).take (k+1-k)=[s.getD k 0]:=by
 rw[Ii h,show k+1-k=1 by omega];rfl
theorem ja(h:n<10^1000):(ag n).length<=1000:=(dB (by omega)).2 h
theorem OQ(h:k<s.length):s[k]?=some (s.getD k 0):=by
 rw[gD,gE h];rfl
def three(a b:List UInt8)(e:Int):Value:= .tuple ⟨[strOf a,strOf b,.int .i64 e]⟩
theorem CK(m n:Nat)(L:m<10^1000)(B:n<10^1000)(U:0<n)(h:ae)(w:Wf h):FW SS 137 [strOf (ag m),strOf (ag n)] h (λv D=>v=three (ag (m/n)) (ag (m%n)) 0/\Ok h D):=by
 have u4:=ja L;have z8:=ja B;have z1:=dv m;generalize ha:ag m=a at*;have y5:Num.val a=m:=by rw[<-ha,bI]
 have y7:¬ag n=[48]:=λe=>by have:=bU.1 e;omega
 have L3:=λ(g0:ae) (r:List UInt8) (q:Option Addr) (l x:Nat) (c:List UInt8) (M:eO h g0 5 (.slice q l x) (c.map vW)) (hq:c.all ca=true) (z7:0<c.length) (z9:c.length<=1000) (y4:Num.val c=m/n) (y:r=ag (m%n)) (N:Ok h g0)=>
  Bs a (ag n) r q l x (λs z g=>z+1<=c.length/\s=c.length-z/\(∀i,i<z->c[i]?=some 48)/\g=g0) (λv D=>v=three (ag (m/n)) (ag (m%n)) 0/\Ok h D) (by
  intro s z;intros;rename_i g O;obtain⟨h1,h2,h3,rfl⟩:=O;have u2:l=c.length:=by have:=M.len;rwa[lM]at this
  have hw:wrap .i64 ((l:Int)-1)=(l:Int)-1:=aF (by omega) (by omega);have E:wrap .i64 ((z:Int)+1)=((z+1:Nat):Int):=by rw[aF (by omega) (by omega)];omega
  have x3:(z+1<c.length->c[z]?≠some 48)->∃(x4:Option Addr)(x5 x2:Nat),cg SS.P 172 (.slice q l x) (some (.int .i64 (z:Int))) none none g=some (.slice x4 x5 x2)/\∃Y:List UInt8,D5 SS.P 172 9 (.slice x4 x5 x2) g=some (strOf Y)/\(three Y r 0=three (ag (m/n)) (ag (m%n)) 0/\Ok h g):=λhs=>by
   obtain⟨a',n',c',g1,A⟩:=M.from_ DF zz5 (z:=z) (by rw[lM];omega);rw[<-List.map_drop]at A;refine⟨a',n',c',g1,_,Rc A,?_,N⟩;rw[Ln hq (by omega) h3 hs,y4,y]
  rw[hw,E];refine aa (λo=>?_) (λo=>?_)
  ·have o:=dT o;obtain⟨p,A,X⟩:=M.rd.at_ DF zz5 un5 ag5 (k:= .i64) (i:=(z:Int)) (by omega) (by rw[lM];omega);have C:(c.map vW).getD ((z:Int)).toNat undef = .int .u8 ((c.getD z 0).toNat:Nat):=by
    rw[Int.toNat_natCast,gD,List.getElem?_map,OQ (by omega)];rfl
   rw[C]at X;refine⟨p,A,_,X,aa (λf=>?_) (λf=>?_)⟩
   ·have f:=Ri.1 f;refine cz (s-1) (by omega) ⟨by omega,by omega,λi O=>?_,rfl⟩;rcases lt_or_ge i z with t|t
    ·exact h3 i t
    ·obtain rfl:i=z:=by omega
     rw[OQ (by omega),f]
   ·exact x3 λ_ e=>by
     rw[OQ (by omega)]at e;rw[Ri.2 (oI e)]at f;cases f
  ·have o:=dF o;exact x3 λhh=>by omega)
 have L1:=Bq a (ag n) (λs k r q l x g=>k<=a.length/\s=a.length-k/\r=ag (Num.val (a.take k)%n)/\(∃c:List UInt8,c.length=k/\c.all ca=true/\Num.val c=Num.val (a.take k)/n/\eO h g 5 (.slice q l x) (c.map vW))/\Ok h g) (λv D=>v=three (ag (m/n)) (ag (m%n)) 0/\Ok h D) (by
  intro s k r q l x;intros;rename_i g O;obtain⟨h1,h2,y,⟨c,y2,x9,G,M⟩,N⟩:=O;refine aa (λo=>?_) (λo=>?_)
  ·have o:=dT o;have F:k<a.length:=by omega
   have S:=E9 z1 F;have y6:=tJ S;have y0:=mod_lt (Num.val (a.take k)) U;have E:wrap .i64 ((k:Int)+1)=((k+1:Nat):Int):=by rw[aF (by omega) (by omega)];omega
   have x7:Num.val (a.take (k+1))=10*Num.val (a.take k)+kF (a.getD k 0):=vQ (OQ F);have K:=Jt (r:=Num.val (a.take k)%n) S;have L2:=Br a (ag n) (λs k r q l x g=>k<=a.length/\s=a.length-k/\r=ag (Num.val (a.take k)%n)/\(∃c:List UInt8,c.length=k/\c.all ca=true/\Num.val c=Num.val (a.take k)/n/\eO h g 5 (.slice q l x) (c.map vW))/\Ok h g) s k q l x
    (λx0 r d A=>∃j:Nat,d=48+(j:Int)/\j*n<=10*(Num.val (a.take k)%n)+kF (a.getD k 0)/\r=ag (10*(Num.val (a.take k)%n)+kF (a.getD k 0)-j*n)/\x0=10*(Num.val (a.take k)%n)+kF (a.getD k 0)-j*n/\Ok g A) (λv D=>v=three (ag (m/n)) (ag (m%n)) 0/\Ok h D) (by
    intro x0 r2 d;intros;rename_i A z4;obtain⟨j,rfl,x6,rfl,u3,J⟩:=z4;have P:=Lb U y6 x6;generalize hR:10*(Num.val (a.take k)%n)+kF (a.getD k 0)=R at*;have z6:(ag (R-j*n)).length<=1001:=by
     have z5:=qZ n;refine Nat.le_trans ((dB (k:=(ag n).length+1) (by omega)).2 ?_) (by omega);rw[Nat.pow_succ];generalize 10^(ag n).length=T at z5;clear B L;omega
    have y9:=N.trans J;refine(sZ (R-j*n) n (by omega) (by omega) A y9.wf).mono ?_;rintro _ X ⟨rfl,H⟩;refine⟨_,rfl,aa (λf=>?_) (λf=>?_)⟩
    ·have f:=HS.1 (dT f);refine(vf _ (dv _) (by omega) X H.wf).mono ?_;rintro _ g4 ⟨a1,n1,c1,rfl,o1,x8⟩;refine⟨a1,n1,c1,rfl,(vf _ (dv _) (by omega) g4 x8.wf).mono ?_⟩;rintro _ g5 ⟨a2,n2,c2,rfl,o2,Q⟩;refine⟨a2,n2,c2,rfl,(Gu (o1.rd.ok Q) o2.rd (oN (dv _)) (oN (dv _)) (by rw[nf];omega) Q.wf).mono ?_⟩;rintro _ g6 ⟨a3,n3,c3,rfl,o3,x1⟩;refine⟨a3,n3,c3,rfl,(vh o3.rd (HV (oN (dv _)) (oN (dv _)) _ _ _ (by omega)) (by rw[fJ,nf];omega) x1.wf).mono ?_⟩;rintro _ g7 ⟨rfl,z0⟩;have z2:(ag n).length<=(ag (R-j*n)).length:=by
      rcases lt_or_ge (ag (R-j*n)).length (ag n).length with t|t
      ·have:=od t;omega
      ·exact t
     have Z:=HU (oN (dv (R-j*n))) (oN (dv n)) (by rw[nf,nf];exact z2) (by rw[iM,iM,bI,bI];exact f);rw[iM,iM,bI,bI]at Z;rw[Z];refine⟨_,rfl,?_⟩;have y3:wrap .u8 (48+(j:Int)+1)=48+((j+1:Nat):Int):=by rw[vJ (by omega) (by omega)];omega
     rw[y3];have C:(j+1)*n=j*n+n:=Nat.succ_mul j n;exact jV (R-j*n-n) (by clear B L;omega) ⟨j+1,rfl,by rw[C];clear B L;omega,by rw[C,Nat.sub_sub],by rw[C,Nat.sub_sub],((((J.trans H).trans x8).trans Q).trans x1).trans z0⟩
    ·have f:¬(n<=R-j*n):=λe=>by have:=dF f;exact this (HS.2 e)
     have W:=Lc (V:=Num.val (a.take k)) (d:=kF (a.getD k 0)) U (k:=j) (by rw[hR];exact x6) (by rw[hR,Nat.succ_mul];clear B L;omega);rw[hR]at W;refine⟨_,_,_,acy _,?_⟩;have y8:=N.trans (J.trans H);obtain⟨b,mm,dd,u,g6,g7,g8,g9⟩:=Rb w y8 (M.ok (J.trans H)) (48+(j:Int)) (by rw[lM];omega);refine⟨b,mm,dd,u,g6,?_⟩;rw[E];refine rz (s-1) (by omega) ⟨by omega,by omega,?_,⟨c++[fI j],by simp[y2],?_,?_,?_⟩,g9⟩
     ·rw[x7,W.2]
     ·rw[List.all_append,x9];simp[wk P]
     ·rw[js,G,ES P,x7,W.1]
     ·rw[map_append];have C:vW (fI j) = .int .u8 (48+(j:Int)):=by
       unfold vW;rw[kH P];rfl
      show eO h _ 5 _ (_++[vW (fI j)]);rw[C];exact g8)
   have I:∀r',r'=ag (10*(Num.val (a.take k)%n)+kF (a.getD k 0))->∃j:Nat,(48:Int)=48+(j:Int)/\j*n<=10*(Num.val (a.take k)%n)+kF (a.getD k 0)/\r'=ag (10*(Num.val (a.take k)%n)+kF (a.getD k 0)-j*n)/\10*(Num.val (a.take k)%n)+kF (a.getD k 0)=10*(Num.val (a.take k)%n)+kF (a.getD k 0)-j*n/\Ok g g:=
    λr' e=>⟨0,rfl,by rw[Nat.zero_mul];exact Nat.zero_le _,by rw[Nat.zero_mul,Nat.sub_zero];exact e,by rw[Nat.zero_mul,Nat.sub_zero],Ok.refl N.wf⟩
   rw[E];refine aa (λf=>?_) (λf=>?_)
   ·have f:r=[48]:=by simpa using f
    refine⟨_,Yq a (by omega) (by omega),?_⟩;rw[Xa F];refine L2 _ (I _ ?_);rw[<-K,if_pos (by rw[<-y];exact f)]
   ·have f:¬r=[48]:=by simpa using f
    refine⟨_,Yq a (by omega) (by omega),?_⟩;rw[Xa F];have u1:r.length<=1000:=by
     rw[y];exact ja (Nat.lt_trans y0 B)
    refine⟨_,tW r [a.getD k 0] (by simp;omega),?_⟩;refine L2 _ (I _ ?_);rw[<-K,if_neg (by rw[<-y];exact f),y]
  ·have o:=dF o;obtain rfl:k=a.length:=by omega
   rw[List.take_length]at G y;rw[y5]at G y;have u0:0<a.length:=by rw[<-ha];exact qf m
   exact L3 g r q l x c M x9 (by omega) (by omega) G y N c.length (z:=0) ⟨by omega,by omega,λi O=>by omega,rfl⟩)
 refine TL a (ag n) h _ ?_;refine(dQ a h).mono ?_;rintro _ _ ⟨rfl,rfl⟩;have z3:Num.valid a=true:=by rw[<-ha];exact eM.2 L
 have y1:Num.valid (ag n)=true:=eM.2 B;refine⟨_,rfl,aa (λf=>?_) (λf=>?_)⟩
 ·rw[z3]at f;cases f
 ·refine(dQ (ag n) _).mono ?_;rintro _ _ ⟨rfl,rfl⟩;refine⟨_,rfl,aa (λt=>?_) (λt=>aa (λh8=>?_) (λh8=>?_))⟩
  ·rw[y1]at t;cases t
  ·exact absurd (by simpa using h8) y7
  ·exact L1 a.length (k:=0) ⟨by omega,by omega,by rw[take_zero];simp[lN,qv],⟨[],rfl,rfl,by rw[take_zero];simp[lN],.inl ⟨rfl,rfl⟩⟩,Ok.refl w⟩
def two(a:List UInt8)(e:Int):Value:= .tuple ⟨[strOf a,.int .i64 e]⟩
def DW(a b:List UInt8):Value:=if Num.valid a=true/\Num.valid b=true then two (ag (Nat.gcd (Num.val a) (Num.val b))) 0 else two [] 1
theorem IL(a b:List UInt8)(h:ae)(w:Wf h):FW SS 118 [strOf a,strOf b] h (λv s=>v=DW a b/\Ok h s):=by
 refine TM a b h _ ?_;refine(dQ a h).mono ?_;rintro _ _ ⟨rfl,rfl⟩;refine⟨_,rfl,aa (λi=>?_) (λi=>?_)⟩
 ·refine⟨?_,Ok.refl w⟩;unfold DW;rw[if_neg (λe=>by rw[e.1]at i;cases i)];rfl
 ·refine(dQ b _).mono ?_;rintro _ _ ⟨rfl,rfl⟩;refine⟨_,rfl,aa (λf=>?_) (λf=>?_)⟩
  ·refine⟨?_,Ok.refl w⟩;unfold DW;rw[if_neg (λe=>by rw[e.2]at f;cases f)];rfl
  ·have o:Num.valid a=true:=by simpa using i
   have k:Num.valid b=true:=by simpa using f
   obtain⟨m,rfl,C,_⟩:=di o;obtain⟨n,rfl,B,_⟩:=di k;rename_i u _ _;have L:=Bt (ag m) (ag n) (λc x y g=>∃p q:Nat,x=ag p/\y=ag q/\p<10^1000/\q<10^1000/\Nat.gcd p q=Nat.gcd m n/\c=q/\Ok u g) (λv s=>v=DW (ag m) (ag n)/\Ok u s) (by
    intro c x y;intros;rename_i g D;obtain⟨p,q,rfl,rfl,F,r,A,rfl,t⟩:=D;refine aa (λd=>?_) (λd=>?_)
    ·have d:¬ag c=[48]:=by simpa using d
     have l:0<c:=Nat.pos_of_ne_zero λe=>d (bU.2 e);refine(CK p c F r l g t.wf).mono ?_;rintro _ G ⟨rfl,z⟩;refine⟨_,_,_,rfl,?_⟩;have j:=mod_lt p l;exact jV (p%c) j ⟨c,p%c,rfl,rfl,r,Nat.lt_trans j r,by rw[<-Oa];exact A,rfl,t.trans z⟩
    ·have d:ag c=[48]:=by simpa using d
     have E:=bU.1 d;subst E;refine⟨?_,t⟩;unfold DW;rw[if_pos ⟨o,k⟩,bI,bI,<-A,Nat.gcd_zero_right];rfl)
   exact L n ⟨m,n,rfl,rfl,C,B,rfl,rfl,Ok.refl w⟩
noncomputable def pa:FD:=dq Tryz.f174 [([1,0,0,0],[0])]
abbrev qi  (r:OA) (m d:Nat):LV:=[(.slice r m d)]
theorem F6(a:OA)(n c:Nat)(h:ae)(Q:VH)(b:LL SS pa [1,0,0,0] [(.slice a n c)] h (KK SS pa [1,0,0] [] (EE SS pa Q))):FW SS 174 [(.slice a n c)] h Q:=du pa Tryz.func174 (ai b)
theorem rI(a:OA)(n c:Nat)  (i:Nat->OA->Nat->Nat->ae->Prop) (Q:VH) (step:∀(g:Nat)(r:OA)(m d:Nat)(k:Nat->Value)(h:ae),i g r m d h->au (decide (((m:Int):Int)>0)) (iP 177 (.slice r m d) (.int .i64 (wrap .i64 ((m:Int)-1))) λf=>xI .u64 (aj SS.P 150 h (.pointer (some f))) λe=>au (((e:Int)==0)) (xL (cg SS.P 177 (.slice r m d) none (some (.int .i64 (wrap .i64 ((m:Int)-1)))) none h) λa b c=>aM (LA3 qi i) g [(.slice a b c)] h) (Q (.slice r m d) h)) (Q (.slice r m d) h)) (g:Nat) {r:OA} {m d:Nat} {h:ae} (j:i g r m d h):LL SS pa [1,0,0,0] (qi  r m d) h (KK SS pa [1,0,0] [] (EE SS pa Q)):=
 Yc qi i (λg r m d k h j=>ai (step g r m d k h j)) g j
noncomputable def dx:FD:=dq Tryz.f172 [([1,1,0,0,0],[0,3]),([1,1,0,0,0,1,0,1,1,0,1,0,0],[0,3,4,5,6])]
abbrev im  (s:LB) (r:OA) (a b:Nat):LV:=[(strOf s),(.slice r a b)]
abbrev jW(s:LB)(r:OA)(b c:Nat)(a:Int)(i v:Int):LV:=[(strOf s),(.slice r b c),(.int .i64 a),(.int .u64 v),(.int .i64 i)]
theorem J3(l:LB)(h:ae)(Q:VH)(a:LL SS dx [1,1,0,0,0] [(strOf l),nA] h (KK SS dx [1,1,0,0] [] (EE SS dx Q))):FW SS 172 [(strOf l)] h Q:=du dx Tryz.func172 (ai a)
theorem xb(l:LB)  (j:Nat->LB->OA->Nat->Nat->ae->Prop) (Q:VH) (step:∀(i:Nat)(s:LB)(r:OA)(f g:Nat)(m:Nat->Value)(h:ae),j i s r f g h->au (decide ((((s:LB).length:Int):Int)>0)) (xI .i64 (uE true [(.int .i64 0),(.int .i64 (wrap .i64 (((s:LB).length:Int)-9)))]) λa=>LL SS dx [1,1,0,0,0,1,0,1,1,0,1,0,0] (jW s r f g a a 0) h (KK SS dx [1,0,1,1,0,1,0] [1,1,0,0,0] (RR dx [1,1,0,0,0] (LA4 im j) i (KK SS dx [1,1,0,0] [] (EE SS dx Q))))) (FW SS 174 [(.slice r f g)] h λd e=>yL d λa b c=>Q (.slice a b c) e)) (i:Nat) {s:LB} {r:OA} {f g:Nat} {h:ae} (k:j i s r f g h):LL SS dx [1,1,0,0,0] (im  s r f g) h (KK SS dx [1,1,0,0] [] (EE SS dx Q)):=
 Yd im j (λi s r f g m h k=>ai (step i s r f g m h k)) i k
theorem xd(l:LB)(p:Nat->LB->OA->Nat->Nat->ae->Prop)(t:Nat)(s:LB)(r:OA)(n o:Nat)(m:Int)(k:Nat->Int->Int->ae->Prop)(Q:VH)(step:∀(j:Nat) (i v:Int) (u:Nat->Value) (h:ae),k j i v h->au (decide ((i:Int)<((s:LB).length:Int))) (xI .u8 (bZ SS.P 9 (strOf s) (.int .i64 i)) λa=>aM (tE (jW s r n o m) k) j [(strOf s),(.slice r n o),(.int .i64 m),(.int .u64 (wrap .u64 (wrap .u64 (10*v)+wrap .u64 (wrap .u8 (a-48))))),(.int .i64 (wrap .i64 (i+1)))] h) (xR (aJ SS.P 177 1 [(0,(.int .u64 v))]) h λ_ f g i=>xE (bR SS.P 177 177 (.slice r n o) (sA (h.next) f g) i) i λb c d _ e=>xS (cg SS.P 9 (strOf s) none (some (.int .i64 m)) none e) λa=>aM (LA4 im p) t [(strOf a),(.slice b c d)] e))(j:Nat){i v:Int}{h:ae}(q:k j i v h):LL SS dx [1,1,0,0,0,1,0,1,1,0,1,0,0] (jW s r n o m i v) h (KK SS dx [1,0,1,1,0,1,0] [1,1,0,0,0] (RR dx [1,1,0,0,0] (LA4 im p) t (KK SS dx [1,1,0,0] [] (EE SS dx Q)))):=
 pU (jW s r n o m) k (λj i v u h q=>ai (step j i v u h q)) j q
noncomputable def adN:FD:=dq Tryz.f206 []
theorem aba(x:Int)(h:ae)(Q:VH)(a:Q (.bool (((x:Int) !=x))) h):FW SS 206 [(.int .u64 x)] h Q:=du adN Tryz.func206 (ai a)
noncomputable def adv:FD:=dq Tryz.f196 []
theorem aaz(x y:Int)(h:ae)(Q:VH)(g:FW SS 206 [(.int .u64 x)] h λe f=>yB e λd=>FW SS 206 [(.int .u64 y)] f λb c=>yB b λa=>au d (au a (Q (.int .i64 0) c) (Q (.int .i64 (-1)) c)) (au a (Q (.int .i64 1) c) (au (decide ((x:Int)<y)) (Q (.int .i64 (-1)) c) (au (decide ((x:Int)>y)) (Q (.int .i64 1) c) (Q (.int .i64 0) c))))):FW SS 196 [(.int .u64 x),(.int .u64 y)] h Q:=du adv Tryz.func196 (ai g)
noncomputable def adM:FD:=dq Tryz.f165 []
theorem aa9(x:Int)(h:ae)(Q:VH)(a:Q (.bool (((x:Int) !=x))) h):FW SS 165 [(.int .i64 x)] h Q:=du adM Tryz.func165 (ai a)
noncomputable def adu:FD:=dq Tryz.f195 []
theorem aax(x y:Int)(h:ae)(Q:VH)(g:FW SS 165 [(.int .i64 x)] h λe f=>yB e λd=>FW SS 165 [(.int .i64 y)] f λb c=>yB b λa=>au d (au a (Q (.int .i64 0) c) (Q (.int .i64 (-1)) c)) (au a (Q (.int .i64 1) c) (au (decide ((x:Int)<y)) (Q (.int .i64 (-1)) c) (au (decide ((x:Int)>y)) (Q (.int .i64 1) c) (Q (.int .i64 0) c))))):FW SS 195 [(.int .i64 x),(.int .i64 y)] h Q:=du adu Tryz.func195 (ai g)
noncomputable def jz:FD:=dq Tryz.f186 [([1,1,0,1,0,0],[0,1,18,19])]
abbrev jA(a:OA)(n c:Nat)(b:OA)(m d:Nat)(i:Nat):LV:=[(.slice a n c),(.slice b m d),(iA n),(iA i)]
theorem HC(a:OA)(n c:Nat)(b:OA)(m d:Nat)(h:ae)(Q:VH)(e:au ((((n:Int):Int) !=(m:Int))) (FW SS 195 [(iA n),(iA m)] h λb c=>yI .i64 b λa=>Q (.int .i64 a) c) (LL SS jz [1,1,0,1,0,0] (jA a n c b m d 0) h (KK SS jz [1,1,0,1,0] [] (EE SS jz Q)))):FW SS 186 [(.slice a n c),(.slice b m d)] h Q:=du jz Tryz.func186 (ai e)
theorem vY(a:OA)(n c:Nat)(b:OA)(m d:Nat)  (q:Nat->Nat->ae->Prop) (Q:VH) (step:∀(p:Nat)(i:Nat)(s:Nat->Value)(h:ae),q p i h->au (decide (((i:Int):Int)<(n:Int))) (xP (aD SS.P 177 (.slice a n c) (.int .i64 (wrap .i64 (wrap .i64 ((n:Int)-1)-(i:Int))))) λo=>xI .u64 (aj SS.P 150 (room h 18) (.pointer (some o))) λl=>xP (aD SS.P 177 (.slice b m d) (.int .i64 (wrap .i64 (wrap .i64 ((n:Int)-1)-(i:Int))))) λk=>xI .u64 (aj SS.P 150 (room h 18) (.pointer (some k))) λj=>FW SS 196 [(.int .u64 l),(.int .u64 j)] (room h 18) λf g=>yI .i64 f λe=>au (((e:Int) !=0)) (Q (.int .i64 e) g) (aM (gp (jA a n c b m d) q) p [(.slice a n c),(.slice b m d),(iA n),(.int .i64 (wrap .i64 ((i:Int)+1)))] g)) (Q (.int .i64 0) h)) (p:Nat) {i:Nat} {h:ae} (r:q p i h):LL SS jz [1,1,0,1,0,0] (jA a n c b m d i) h (KK SS jz [1,1,0,1,0] [] (EE SS jz Q)):=
 dJ (jA a n c b m d) q (λp i s h r=>ai (step p i s h r)) p r
noncomputable def T0:FD:=dq Tryz.f213 []
theorem PF(x y z:Int)(p:OA)(h:ae)(Q:VH)(d:xI .u64 (aj SS.P 150 h (.pointer p)) λc=>xI .u64 (aB SS.P .rem 150 (.int .u64 (wrap .u64 (wrap .u64 (x*c)+z))) (.int .u64 1000000000)) λb=>xI .u64 (aB SS.P .quo 150 (.int .u64 (wrap .u64 (wrap .u64 (x*c)+z))) (.int .u64 1000000000)) λa=>Q (.tuple ⟨[(.int .u64 b),(.int .u64 a)]⟩) h):FW SS 213 [(.int .u64 x),(.int .u64 y),(.int .u64 z),(.pointer p)] h Q:=du T0 Tryz.func213 (ai d)
noncomputable def jx:FD:=dq Tryz.f193 [([1,1,1,0,1,0,0],[0,1,2,7,8,18,19])]
abbrev fx(a:OA)(n c:Nat)(p:OA)(b:Int)(i:Nat)(cy:Int)(r:OA)(d e:Nat):LV:=[(.slice a n c),nA,(.func (.func 213) ⟨[]⟩ ⟨[(.pointer p)]⟩),(.slice r d e),(.int .u64 cy),(.int .i64 b),(iA i)]
theorem Hu(a:OA)(n c:Nat)(p:OA)(h:ae)(Q:VH)(d:xI .i64 (uE true [(iA n),(.int .i64 0)]) λb=>LL SS jx [1,1,1,0,1,0,0] [(.slice a n c),nA,(.func (.func 213) ⟨[]⟩ ⟨[(.pointer p)]⟩),nA,(.int .u64 0),(.int .i64 (wrap .i64 (b+1))),(.int .i64 0)] h (KK SS jx [1,1,1,0,1,0] [] (EE SS jx Q))):FW SS 193 [(.slice a n c),nA,(.func (.func 213) ⟨[]⟩ ⟨[(.pointer p)]⟩)] h Q:=du jx Tryz.func193 (ai d)
theorem vX(a:OA)(n c:Nat)(p:OA)(v:Int)(w:Nat->Nat->Int->OA->Nat->Nat->ae->Prop)(Q:VH)(step:∀(z:Nat) (i:Nat) (cy:Int) (r:OA) (x y:Nat) (B:Nat->Value) (h:ae),w z i cy r x y h->au (decide (((i:Int):Int)<v)) (au (decide (((i:Int):Int)<(n:Int))) (iP 177 (.slice a n c) (iA i) λu=>xI .u64 (aj SS.P 150 h (.pointer (some u))) λt=>au (decide (((i:Int):Int)<0)) (iP 177 nA (iA i) λs=>xI .u64 (aj SS.P 150 h (.pointer (some s))) λq=>FW SS 213 [(.int .u64 t),(.int .u64 q),(.int .u64 cy),(.pointer p)] h λm o=>∃l:Int,∃k:Int,m=(.tuple ⟨[(.int .u64 l),(.int .u64 k)]⟩)/\xR (aJ SS.P 177 1 [(0,(.int .u64 l))]) o λ_ g h j=>xE (bR SS.P 177 177 (.slice r x y) (sA (o.next) g h) j) j λb d e _ f=>aM (ED (fx a n c p v) w) z [(.slice a n c),nA,(.func (.func 213) ⟨[]⟩ ⟨[(.pointer p)]⟩),(.slice b d e),(.int .u64 k),(.int .i64 v),(.int .i64 (wrap .i64 ((i:Int)+1)))] f) (FW SS 213 [(.int .u64 t),(.int .u64 0),(.int .u64 cy),(.pointer p)] h λm o=>∃l:Int,∃k:Int,m=(.tuple ⟨[(.int .u64 l),(.int .u64 k)]⟩)/\xR (aJ SS.P 177 1 [(0,(.int .u64 l))]) o λ_ g h j=>xE (bR SS.P 177 177 (.slice r x y) (sA (o.next) g h) j) j λb d e _ f=>aM (ED (fx a n c p v) w) z [(.slice a n c),nA,(.func (.func 213) ⟨[]⟩ ⟨[(.pointer p)]⟩),(.slice b d e),(.int .u64 k),(.int .i64 v),(.int .i64 (wrap .i64 ((i:Int)+1)))] f)) (au (decide (((i:Int):Int)<0)) (iP 177 nA (iA i) λs=>xI .u64 (aj SS.P 150 h (.pointer (some s))) λq=>FW SS 213 [(.int .u64 0),(.int .u64 q),(.int .u64 cy),(.pointer p)] h λm o=>∃l:Int,∃k:Int,m=(.tuple ⟨[(.int .u64 l),(.int .u64 k)]⟩)/\xR (aJ SS.P 177 1 [(0,(.int .u64 l))]) o λ_ g h j=>xE (bR SS.P 177 177 (.slice r x y) (sA (o.next) g h) j) j λb d e _ f=>aM (ED (fx a n c p v) w) z [(.slice a n c),nA,(.func (.func 213) ⟨[]⟩ ⟨[(.pointer p)]⟩),(.slice b d e),(.int .u64 k),(.int .i64 v),(.int .i64 (wrap .i64 ((i:Int)+1)))] f) (FW SS 213 [(.int .u64 0),(.int .u64 0),(.int .u64 cy),(.pointer p)] h λm o=>∃l:Int,∃k:Int,m=(.tuple ⟨[(.int .u64 l),(.int .u64 k)]⟩)/\xR (aJ SS.P 177 1 [(0,(.int .u64 l))]) o λ_ g h j=>xE (bR SS.P 177 177 (.slice r x y) (sA (o.next) g h) j) j λb d e _ f=>aM (ED (fx a n c p v) w) z [(.slice a n c),nA,(.func (.func 213) ⟨[]⟩ ⟨[(.pointer p)]⟩),(.slice b d e),(.int .u64 k),(.int .i64 v),(.int .i64 (wrap .i64 ((i:Int)+1)))] f))) (FW SS 174 [(.slice r x y)] h λd e=>yL d λa b c=>Q (.slice a b c) e))(z:Nat){i:Nat}{cy:Int}{r:OA}{x y:Nat}{h:ae}(A:w z i cy r x y h):LL SS jx [1,1,1,0,1,0,0] (fx a n c p v i cy r x y) h (KK SS jx [1,1,1,0,1,0] [] (EE SS jx Q)):=
 IQ (fx a n c p v) w (λz i cy r x y B h A=>ai (step z i cy r x y B h A)) z A
noncomputable def MC:FD:=dq Tryz.f202 []
theorem J6(a:OA)(n c:Nat)(k:Int)(h:ae)(Q:VH)(g:xN (fu SS.P 150 (.int .u64 k)) h λ_ f=>FW SS 193 [(.slice a n c),nA,(.func (.func 213) ⟨[]⟩ ⟨[(pA (h.next))]⟩)] f λd e=>yL d λa b c=>Q (.slice a b c) e):FW SS 202 [(.slice a n c),(.int .u64 k)] h Q:=du MC Tryz.func202 (ai g)
def uv(d:Nat):Value:= .int .u64 (d:Int)
theorem DG:SS.P.underlying 177=some (.slice 150):=by rfl
theorem Rj:SS.P.underlying 150=some (.int .u64):=by rfl
theorem Hc:aI SS.P 150=some 1:=by rfl
theorem Qr:Go.Ab.isAgg SS.P 150=false:=by rfl
noncomputable def XM:TypeInfo:=(fE SS.P 150).getD default
theorem M3:fE SS.P 150=some XM:=by rfl
theorem Gq:XM.size=1:=by rfl
theorem Dz:XM.bytes=8:=by rfl
theorem vR(z:Int):aJ SS.P 177 1 [(0,.int .u64 z)]=some (.cells [.int .u64 z] 150 1 true,ph 1 1):=by rfl
theorem oD(d:Wf g)(e:Ok g h){v:Value}{a:List Value}(o:eO g h 150 v a)(z:Int)(f:a.length<=100000):
  ∃(b:Option Addr)(n c:Nat)(u:eu),bR SS.P 177 177 v (.slice (some ⟨h.next,0,none⟩) 1 1) (h.push (.cells [.int .u64 z] 150 1 true))=some (.slice b n c,u)/\n=a.length+1/\eO g (u.app (h.push (.cells [.int .u64 z] 150 1 true))) 150 (.slice b n c) (a++[.int .u64 z])/\Ok g (u.app (h.push (.cells [.int .u64 z] 150 1 true))):=
 eO.snoc DG M3 Gq d e o rfl (by grind[Dz]) (by omega)
theorem WM(l:List Nat)(i:Nat)(h:i<l.length):(l.map uv).getD i undef = .int .u64 (l.getD i 0:Nat):=by grind[uv]
theorem H7(r:Rd h 150 v (x.map uv)){i:Int}(b:0<=i)(a:i<x.length):
  ∃p:Addr,aD SS.P 177 v (.int .i64 i)=some (.pointer (some p))/\aj SS.P 150 h (.pointer (some p))=some (.int .u64 (x.getD i.toNat 0:Nat)):=by
 obtain⟨p,d,c⟩:=r.at_ DG Hc Rj Qr (k:= .i64) b (by rw[lM];exact a)
 grind[WM]
theorem uG{c:Nat}(o:eO g h 150 (.slice a n c) (x.map uv))(C:x.length<=100000):
  FW SS 174 [.slice a n c] h (λv u=>∃k f e,v = .slice k f e/\eO g h 150 (.slice k f e) ((eC x).map uv)/\u=h):=by
 have J:n=x.length:=by have:=o.len;rwa[lM]at this
 have L:=rI a n c (λb r m d I=>m<=x.length/\b=m/\eO g h 150 (.slice r m d) ((x.take m).map uv)/\eC x=eC (x.take m)/\I=h) (λv u=>∃k f e,v = .slice k f e/\eO g h 150 (.slice k f e) ((eC x).map uv)/\u=h) (by
  intro b r m d;intros;rename_i I H;obtain⟨K,rfl,t,w,rfl⟩:=H;have G:wrap .i64 ((b:Int)-1)=(b:Int)-1:=aF (by omega) (by omega);rw[G];have s:b≠0->x.take b=x.take (b-1)++[x.getD (b-1) 0]:=λs=>by
   obtain⟨j,rfl⟩:∃j,b=j+1:=⟨b-1,by omega⟩
   grind[List.take_succ_eq_append_getElem]
  refine aa (λq=>?_) (λq=>?_)
  ·have q:=dT q;obtain⟨p,E,B⟩:=H7 t.rd (i:=(b:Int)-1) (by omega) (by grind);have D:(x.take b).getD ((b:Int)-1).toNat 0=x.getD (b-1) 0:=by
    rw[show((b:Int)-1).toNat=b-1 by omega,gD,List.getElem?_take,if_pos (by omega),gD]
   rw[D]at B;refine⟨p,E,_,B,aa (λl=>?_) (λl=>?_)⟩
   ·have l:((x.getD (b-1) 0:Nat):Int)=0:=by simpa using l
    have l:x.getD (b-1) 0=0:=by omega
    obtain⟨k,f,e,F,A⟩:=t.upto DG Hc (z:=b-1) (by simp_all) (by simp_all);rw[show((b:Int)-1)=((b-1:Nat):Int) by omega];have y:f=b-1:=by have:=A.len;rw[length_take,lM,length_take]at this;omega
    subst y;refine⟨k,_,e,F,Mj (b-1) (by omega) ⟨by omega,rfl,?_,?_,rfl⟩⟩
    ·rw[<-List.map_take,List.take_take,Nat.min_eq_left (by omega)]at A;omega
    ·rw[w,s (by omega),l,jU]
   ·have l:¬((x.getD (b-1) 0:Nat):Int)=0:=by simpa using l
    refine⟨r,b,d,rfl,?_,rfl⟩;rw[w,s (by omega),lJ _ (by omega),<-s (by omega)];omega
  ·have q:=dF q;obtain rfl:b=0:=by omega
   refine⟨r,0,d,rfl,?_,rfl⟩;rw[w];exact t)
 exact F6 a n c h _ (L n ⟨by omega,rfl,by grind,by grind,rfl⟩)
theorem HN{l:List UInt8}(h:i<l.length):Num.val (l.take (i+1))=10*Num.val (l.take i)+kF (l.getD i 0):=vQ (OQ h)
theorem T8(l:List UInt8){h:ae}{b:Nat}(c:b<=l.length):cg SS.P 9 (strOf l) none (some (.int .i64 (b:Int))) none h=some (strOf (l.take b)):=qM (a:=0) abR l rfl rfl (by omega) c
theorem LI(b:n=s.length-9)(a:0<s.length):Num.val s=Num.val (s.drop n)+10^(s.length-n)*Num.val (s.take n):=by grind[lK,List.take_append_drop]
theorem uF(l:List UInt8)(hd:l.all ca=true)(e:l.length<=10000)(h:ae)(w:Wf h):FW SS 172 [strOf l] h (jS h 150 ((bj 1000000000 (Num.val l)).map uv)):=by
 have X:=xb l (λt s r f o g=>t=s.length/\s.all ca=true/\s.length<=10000/\Ok h g/\∃a:List Nat,(∀d∈a,d<1000000000)/\a.length+s.length<=10000/\eO h g 150 (.slice r f o) (a.map uv)/\Num.val l=Num.bv 1000000000 a+1000000000^a.length*Num.val s) (jS h 150 ((bj 1000000000 (Num.val l)).map uv)) (by
  intro t s r f o;intros;rename_i g W;obtain⟨rfl,B,x2,N,a,I,x0,L,F⟩:=W;refine aa (λq=>?_) (λq=>?_)
  ·have q:=dT q;have T:wrap .i64 ((s.length:Int)-9)=(s.length:Int)-9:=aF (by omega) (by omega);rw[T];have A:(if(s.length:Int)-9>0 then(s.length:Int)-9 else 0)=((s.length-9:Nat):Int):=by split<;>omega
   refine⟨_,wW _ _ _,?_⟩;rw[A];have R:=xd l (λt s r f o g=>t=s.length/\s.all ca=true/\s.length<=10000/\Ok h g/\∃a:List Nat,(∀d∈a,d<1000000000)/\a.length+s.length<=10000/\eO h g 150 (.slice r f o) (a.map uv)/\Num.val l=Num.bv 1000000000 a+1000000000^a.length*Num.val s) s.length s r f o ((s.length-9:Nat):Int)
    (λk i v y=>∃j:Nat,i=(s.length-9:Nat)+(j:Int)/\s.length-9+j<=s.length/\k=s.length-(s.length-9+j)/\v=(Num.val ((s.drop (s.length-9)).take j):Nat)/\y=g) (jS h 150 ((bj 1000000000 (Num.val l)).map uv)) (by
    intro k i v;intros;rename_i y M;obtain⟨j,rfl,hj,x4,rfl,rfl⟩:=M;have x3:(s.drop (s.length-9)).all ca=true:=by
     rw[all_eq_true]at B⊢;exact λx Q=>B x (List.mem_of_mem_drop Q)
    have C:=AK (l:=(s.drop (s.length-9)).take j) (by grind);have z:Num.val ((s.drop (s.length-9)).take j)<1000000000:=by
     refine Nat.lt_of_lt_of_le C (Nat.le_trans (Nat.pow_le_pow_right (by omega) (show _<=9 by grind)) (by decide))
    refine aa (λc=>?_) (λc=>?_)
    ·have c:=dT c;have E:s.length-9+j<s.length:=by omega
     have p:=E9 B E;have x5:=nu.1 p;have x1:=tJ p;refine⟨_,DX (h:=y) s (by omega) c,?_⟩;have D:(((s.length-9:Nat):Int)+(j:Int)).toNat=s.length-9+j:=by omega
     rw[D];have O:wrap .u8 ((((s.getD (s.length-9+j) 0).toNat:Nat):Int)-48)=(kF (s.getD (s.length-9+j) 0):Nat):=by
      rw[vJ (by omega) (by omega)];unfold kF;omega
     have Z:(s.drop (s.length-9)).getD j 0=s.getD (s.length-9+j) 0:=by
      rw[gD,List.getElem?_drop,gD]
     have S:=HN (l:=s.drop (s.length-9)) (i:=j) (by grind);rw[Z]at S;dsimp only;rw[O,iL (n:=((kF (s.getD (s.length-9+j) 0):Nat):Int)) (by omega) (by omega),iL (n:=10*((Num.val ((s.drop (s.length-9)).take j):Nat):Int)) (by omega) (by omega),iL (by omega) (by omega),aF (n:=((s.length-9:Nat):Int)+(j:Int)+1) (by omega) (by omega)];exact jV (k-1) (by omega) ⟨j+1,by omega,by omega,by omega,by omega,rfl⟩
    ·have c:=dF c;have H:(s.drop (s.length-9)).take j=s.drop (s.length-9):=take_of_length_le (by grind);rw[H]at z⊢;refine⟨_,_,_,vR _,?_⟩;obtain⟨b,m,d,u,U,g7,P,g9⟩:=oD w N L ((Num.val (s.drop (s.length-9)):Nat):Int) (by grind);refine⟨b,m,d,u,U,?_⟩;refine⟨_,T8 s (show s.length-9<=s.length by omega),?_⟩;refine We (s.take (s.length-9)).length (by grind) ⟨rfl,?_,by grind,g9,a++[Num.val (s.drop (s.length-9))],?_,?_,?_,?_⟩
     ·grind
     ·grind
     ·grind
     ·rw[map_append];exact P
     ·rw[ta,List.length_append,F,LI (s:=s) rfl (by omega),List.length_singleton];rcases lt_or_ge s.length 10 with V|V
      ·rw[show s.length-9=0 by omega,take_zero,lN];simp
      ·rw[show s.length-(s.length-9)=9 by omega,show(10:Nat)^9=1000000000 from rfl,Nat.pow_succ,Nat.mul_add,Nat.mul_assoc];omega)
   exact R _ ⟨0,by omega,by omega,rfl,by simp[lN],rfl⟩
  ·have q:=dF q;obtain rfl:s=[]:=List.eq_nil_of_length_eq_zero (by omega);refine(uG L (by omega)).mono ?_;rintro _ y ⟨K,J,G,rfl,Y,rfl⟩;refine⟨K,J,G,rfl,K,J,G,rfl,?_,N⟩;rw[F,lN,Nat.mul_zero,Nat.add_zero,<-nh (by omega) I];exact Y)
 exact J3 l h _ (X l.length ⟨rfl,hd,e,Ok.refl w,[],by simp,by simpa using e,.inl ⟨rfl,rfl⟩,by simp[Num.bv]⟩)
variable{j:Nat}{P:Program}
theorem QR(x:Int)(h:ae):FW SS 206 [.int .u64 x] h (λv a=>v = .bool false/\a=h):=by grind[aba]
theorem QQ(x:Int)(h:ae):FW SS 165 [.int .i64 x] h (λv a=>v = .bool false/\a=h):=by grind[aa9]
theorem aaA(m n:Nat)(h:ae):FW SS 196 [.int .u64 (m:Int),.int .u64 (n:Int)] h (λv c=>v = .int .i64 (fm m n)/\c=h):=by
 refine aaz _ _ h _ ((QR _ h).mono ?_);rintro _ _ ⟨rfl,rfl⟩;refine⟨_,rfl,(QR _ _).mono ?_⟩;rintro _ _ ⟨rfl,rfl⟩;refine⟨_,rfl,aa (λe=>by cases e) (λ_=>aa (λe=>by cases e) (λ_=>aa (λa=>?_) (λa=>aa (λb=>?_) (λb=>?_))))⟩
 ·exact⟨by rw[oL (by have:=dT a;omega)],rfl⟩
 ·exact⟨by rw[oK (by have:=dT b;omega)],rfl⟩
 grind[tc]
theorem aay(m n:Nat)(h:ae):FW SS 195 [.int .i64 (m:Int),.int .i64 (n:Int)] h (λv c=>v = .int .i64 (fm m n)/\c=h):=by
 refine aax _ _ h _ ((QQ _ h).mono ?_);rintro _ _ ⟨rfl,rfl⟩;refine⟨_,rfl,(QQ _ _).mono ?_⟩;rintro _ _ ⟨rfl,rfl⟩;refine⟨_,rfl,aa (λe=>by cases e) (λ_=>aa (λe=>by cases e) (λ_=>aa (λa=>?_) (λa=>aa (λb=>?_) (λb=>?_))))⟩
 ·exact⟨by rw[oL (by have:=dT a;omega)],rfl⟩
 ·exact⟨by rw[oK (by have:=dT b;omega)],rfl⟩
 grind[tc]
abbrev BB:Nat:=1000000000
abbrev bl(n:Nat):List Value:=(bj BB n).map uv
theorem iI:1<BB:=by decide
theorem sW{b:Option Addr}{c:Nat}{x:Nat}(D:Rd h 150 (.slice a n c) (bl x))(C:Rd h 150 (.slice b m k) (bl j))(H:(bj BB x).length<=10000)(w:Wf h):
  FW SS 186 [.slice a n c,.slice b m k] h (λv u=>v = .int .i64 (fm x j)/\Ok h u):=by
 have O:n=(bj BB x).length:=by have:=D.len;rwa[lM]at this
 have P:m=(bj BB j).length:=by have:=C.len;rwa[lM]at this
 have L:=λ(B:(bj BB x).length=(bj BB j).length)=>vY a n c b m k (λs i g=>i<=n/\s=n-i/\(bj BB x).drop (n-i)=(bj BB j).drop (n-i)/\Ok h g) (λv u=>v = .int .i64 (fm x j)/\Ok h u) (by
  intro s i;intros;rename_i g K;obtain⟨f,l,t,N⟩:=K;have A:wrap .i64 ((n:Int)-1)=(n:Int)-1:=aF (by omega) (by omega);have y:wrap .i64 ((n:Int)-1-(i:Int))=(n:Int)-1-(i:Int):=aF (by omega) (by omega);have z:wrap .i64 ((i:Int)+1)=((i+1:Nat):Int):=by rw[aF (by omega) (by omega)];omega
  rw[A,y,z];have e:=N.room 18;refine aa (λr=>?_) (λr=>?_)
  ·have r:=dT r;have M:((n:Int)-1-(i:Int)).toNat=n-1-i:=by omega
   obtain⟨p,I,G⟩:=H7 (D.ok e) (i:=(n:Int)-1-(i:Int)) (by omega) (by omega);obtain⟨q,J,E⟩:=H7 (C.ok e) (i:=(n:Int)-1-(i:Int)) (by omega) (by omega);rw[M]at G E;refine⟨p,I,_,G,q,J,_,E,(aaA _ _ _).mono ?_⟩;rintro _ _ ⟨rfl,rfl⟩;have F:(bj BB x).drop (n-1-i+1)=(bj BB j).drop (n-1-i+1):=by rw[show n-1-i+1=n-i by omega];exact t
   refine⟨_,rfl,aa (λd=>?_) (λd=>?_)⟩
   ·refine⟨?_,e⟩;have d:fm ((bj BB x).getD (n-1-i) 0) ((bj BB j).getD (n-1-i) 0)≠0:=by simpa using d
    rcases Nat.lt_trichotomy ((bj BB x).getD (n-1-i) 0) ((bj BB j).getD (n-1-i) 0)with o|o|o
    ·have:=wc iI (dM iI x) B (by omega) F o;rw[cI iI,cI iI]at this
     grind[oL]
    ·simp_all[tc]
    ·have:=wc iI (dM iI j) B.symm (by omega) F.symm o;rw[cI iI,cI iI]at this
     grind[oK]
   ·have d:fm ((bj BB x).getD (n-1-i) 0) ((bj BB j).getD (n-1-i) 0)=0:=by simpa using d
    have o:(bj BB x).getD (n-1-i) 0=(bj BB j).getD (n-1-i) 0:=by
     unfold fm at d;split at d
     ·cases d
     ·split at d
      ·assumption
      ·cases d
    refine cz (s-1) (by omega) ⟨by omega,by omega,?_,e⟩
    grind[List.drop_eq_getElem_cons]
  ·have r:=dF r;rw[show n-i=0 by omega,drop_zero,drop_zero]at t;have:x=j:=by rw[<-cI iI x,t,cI iI]
   grind[tc])
 refine HC a n c b m k h _ (aa (λf=>(aay _ _ h).mono ?_) (λf=>?_))
 ·rintro _ _ ⟨rfl,rfl⟩;have f:=WY f;refine⟨_,rfl,?_,Ok.refl w⟩;rcases Nat.lt_trichotomy n m with l|l|l
  ·rw[oL l,oL (oc iI (by omega))]
  ·omega
  ·rw[oK l,oK (oc iI (by omega))]
 ·have f:=OI f;refine L (by omega) n (i:=0) ⟨by omega,by omega,?_,Ok.refl w⟩
  grind
theorem Mr{t:TypeId}{p:Value}(o:Ok h g)(a:aj P t h p=some v):aj P t g p=some v:=by
 unfold aj at a⊢;split at a
 ·next c=>
  split at a
  ·next cs _ _ _ b=>rw[o.ext _ _ b];exact a
  ·cases a
 omega
theorem PG{p:Option Addr}(g:aj SS.P 150 h (.pointer p)=some (.int .u64 (k:Int)))(x y z:Nat)(c:x<BB)(e:k<=BB)(l:z<BB):
  FW SS 213 [.int .u64 (x:Int),.int .u64 (y:Int),.int .u64 (z:Int),.pointer p] h (λv d=>v = .tuple ⟨[uv (dA BB k x y z).1,uv (dA BB k x y z).2]⟩/\d=h):=by
 have i:BB=1000000000:=rfl;have j:x*k<=1000000000000000000:=Nat.le_trans (Nat.mul_le_mul (Nat.le_of_lt c) e) (by decide);have a:wrap .u64 ((x:Int)*(k:Int))=((x*k:Nat):Int):=by rw[<-Int.natCast_mul];exact iL (by omega) (by omega)
 have f:wrap .u64 (((x*k:Nat):Int)+(z:Int))=((x*k+z:Nat):Int):=by rw[<-Int.natCast_add];exact iL (by omega) (by omega)
 refine PF _ _ _ p h _ ⟨_,g,?_⟩;dsimp only;rw[a,f];refine⟨_,ke (b:=BB) (by omega) (by decide),_,ss (b:=BB) (by omega) (by omega) (by decide),?_,rfl⟩;rfl
theorem Hv{c:Nat}{p:Option Addr}(Q:Rd h 150 (.slice a n c) (x.map uv))(z:∀d∈x,d<BB)(Z:x.length<=10000)(X:aj SS.P 150 h (.pointer p)=some (.int .u64 (k:Int)))(t:0<k)(C:k<=BB)(w:Wf h):
  FW SS 193 [.slice a n c,.slice none 0 0,.func (.func 213) ⟨[]⟩ ⟨[.pointer p]⟩] h (jS h 150 (bl (Num.bv BB x*k))):=by
 have hn:n=x.length:=by have:=Q.len;rwa[lM]at this
 have x3:BB=1000000000:=rfl;have hF:∀p q c,c<=BB-1->p<BB->(dA BB k p q c).2<=BB-1:=λp q c hc X=>by
  unfold dA;dsimp only;have h1:p*k<=999999999*1000000000:=Nat.mul_le_mul (by omega) C
  grind
 have R:∀j,fH (dA BB k) x [] 0 0 j<=BB-1:=by
  intro j
  induction j with
  |zero=>exact Nat.zero_le _
  |succ j ih=>exact hF _ _ _ ih (bm (by decide) z _)
 have U:eC (bD (dA BB k) x [] 0 (n+1) 0)=bj BB (Num.bv BB x*k):=by
  rw[nh iI (kG (λp q c=>mod_lt _ (by decide)) x [] (n+1) 0 0),Oh iI C t z (n+1) 0 0 (by omega) t (by omega)];rw[drop_zero,Nat.add_zero]
 have L:=vX a n c p ((n:Int)+1) (λs i cy r K N g=>i<=n+1/\s=n+1-i/\cy=(fH (dA BB k) x [] 0 0 i:Nat)/\eO h g 150 (.slice r K N) ((bD (dA BB k) x [] 0 i 0).map uv)/\Ok h g) (jS h 150 (bl (Num.bv BB x*k))) (by
  intro s i cy r K N;intros;rename_i g hi;obtain⟨h1,h2,rfl,D,l⟩:=hi;have I:wrap .i64 ((i:Int)+1)=((i+1:Nat):Int):=by rw[aF (by omega) (by omega)];omega
  rw[I];have x1:(bD (dA BB k) x [] 0 i 0).length=i:=fJ _ _ _ _ _ _;have e:=jl (dA BB k) x [] i 0 0;rw[Nat.zero_add]at e;have x0:fH (dA BB k) x [] 0 0 (i+1)=(dA BB k (x.getD i 0) (([]:List Nat).getD i 0) (fH (dA BB k) x [] 0 0 i)).2:=by
   show(dA BB k (x.getD (0+i) 0) (([]:List Nat).getD (0+i) 0) _).2=_;rw[Nat.zero_add]
  have x2:=R i;have V:=bm (b:=BB) (by decide) z i;have M:=Mr l X;have S:=PG M (x.getD i 0) (([]:List Nat).getD i 0) (fH (dA BB k) x [] 0 0 i) V C (by omega);have J:([]:List Nat).getD i 0=0:=by simp
  refine aa (λo=>?_) (λo=>?_)
  ·have o:=dT o;refine aa (λf=>?_) (λf=>?_)
   ·have f:=dT f;obtain⟨q,H,Y⟩:=H7 (Q.ok l) (i:=(i:Int)) (by omega) (by omega);rw[Int.toNat_natCast]at Y;refine⟨q,H,_,Y,aa (λB=>?_) (λB=>?_)⟩
    ·grind
    ·refine(show FW SS 213 [.int .u64 ((x.getD i 0:Nat):Int),.int .u64 ((([]:List Nat).getD i 0:Nat):Int),.int .u64 ((fH (dA BB k) x [] 0 0 i:Nat):Int),.pointer p] g _ from S).mono ?_ |> (λy=>by rw[J]at y;omega)
     rintro _ _ ⟨rfl,rfl⟩;refine⟨_,_,rfl,_,_,_,vR _,?_⟩;obtain⟨b,m,d,u,A,g7,v,E⟩:=oD w l D ((dA BB k (x.getD i 0) (([]:List Nat).getD i 0) (fH (dA BB k) x [] 0 0 i)).1:Nat) (by grind);refine⟨b,m,d,u,A,rz (s-1) (by omega) ⟨by omega,by omega,by omega,?_,E⟩⟩;rw[e,map_append];exact v
   ·have f:=dF f;have T:x.getD i 0=0:=by rw[gD,List.getElem?_eq_none (by omega)];rfl
    refine aa (λB=>?_) (λB=>?_)
    ·grind
    ·refine(show FW SS 213 [.int .u64 ((x.getD i 0:Nat):Int),.int .u64 ((([]:List Nat).getD i 0:Nat):Int),.int .u64 ((fH (dA BB k) x [] 0 0 i:Nat):Int),.pointer p] g _ from S).mono ?_ |> (λy=>by rw[J,T]at y;omega)
     rintro _ _ ⟨rfl,rfl⟩;refine⟨_,_,rfl,_,_,_,vR _,?_⟩;obtain⟨b,m,d,u,A,g7,v,E⟩:=oD w l D ((dA BB k (x.getD i 0) (([]:List Nat).getD i 0) (fH (dA BB k) x [] 0 0 i)).1:Nat) (by grind);refine⟨b,m,d,u,A,rz (s-1) (by omega) ⟨by omega,by omega,by omega,?_,E⟩⟩;rw[e,map_append];exact v
  ·have o:=dF o;obtain rfl:i=n+1:=by omega
   refine(uG D (by omega)).mono ?_;rintro _ H ⟨P,O,G,rfl,W,rfl⟩;rw[U]at W;exact⟨P,O,G,rfl,P,O,G,rfl,W,l⟩)
 refine Hu a n c p h _ ⟨_,wW _ _ _,?_⟩;have F:(if(0:Int)>(n:Int)then(0:Int)else(n:Int))=(n:Int):=if_neg (by omega);have hw:wrap .i64 ((n:Int)+1)=(n:Int)+1:=aF (by omega) (by omega);dsimp only;rw[F,hw];exact L (n+1) (i:=0) ⟨by omega,by omega,rfl,.inl ⟨rfl,rfl⟩,Ok.refl w⟩
noncomputable def bL:FD:=dq Tryz.f203 [([1,1,1,1,0,0,0],[0,1,5,7,8]),([1,1,1,1,1,1,0,1,0,0],[0,1,5,7,9,10,87,88]),([1,1,1,1,1,1,1,1,1,0,1,0,0],[0,1,5,7,10,128,129])]
abbrev fA(a:OA)(n c:Nat)(b:OA)(m d:Nat)(q e:Int):LV:=[(.slice a n c),(.slice b m d),(iA m),(.int .u64 q),(.int .u64 e)]
abbrev dU(a:OA)(n c:Nat)(b:OA)(m d:Nat)(q e:Int)(i:Nat)(f cy:Int):LV:=[(.slice a n c),(.slice b m d),(iA m),(.int .u64 q),(.int .u64 f),(.int .u64 cy),(.int .i64 e),(iA i)]
abbrev iV(a:OA)(n c:Nat)(b:OA)(m d:Nat)(q e:Int)(i:Nat)(cy:Int):LV:=[(.slice a n c),(.slice b m d),(iA m),(.int .u64 q),(.int .u64 cy),(.int .i64 e),(iA i)]
theorem Mx(a:OA)(n c:Nat)(b:OA)(m d:Nat)(h:ae)(Q:VH)(r:iP 177 (.slice a n c) (iA m) λq=>xI .u64 (aj SS.P 150 (room h 12) (.pointer (some q))) λp=>iP 177 (.slice a n c) (.int .i64 (wrap .i64 ((m:Int)-1))) λo=>xI .u64 (aj SS.P 150 (room h 12) (.pointer (some o))) λl=>iP 177 (.slice b m d) (.int .i64 (wrap .i64 ((m:Int)-1))) λk=>xI .u64 (aj SS.P 150 (room (room h 12) 16) (.pointer (some k))) λj=>xI .u64 (aB SS.P .quo 150 (.int .u64 (wrap .u64 (wrap .u64 (p*1000000000)+l))) (.int .u64 j)) λi=>iP 177 (.slice b m d) (.int .i64 (wrap .i64 ((m:Int)-1))) λg=>xI .u64 (aj SS.P 150 (room (room h 12) 16) (.pointer (some g))) λf=>xI .u64 (aB SS.P .rem 150 (.int .u64 (wrap .u64 (wrap .u64 (p*1000000000)+l))) (.int .u64 f)) λe=>LL SS bL [1,1,1,1,0,0,0] (fA a n c b m d i e) (room (room h 12) 16) (KK SS bL [1,1,1,1,0,0] [] (EE SS bL Q))):FW SS 203 [(.slice a n c),(.slice b m d)] h Q:=du bL Tryz.func203 (ai r)
theorem yW(a:OA)(n c:Nat)(b:OA)(m d:Nat)  (o:Nat->Int->Int->ae->Prop) (Q:VH) (step:∀(p:Nat)(q l:Int)(s:Nat->Value)(h:ae),o p q l h->au (decide ((q:Int)>=1000000000)) (iP 177 (.slice b m d) (.int .i64 (wrap .i64 ((m:Int)-1))) λf=>xI .u64 (aj SS.P 150 (room h 28) (.pointer (some f))) λe=>au (decide ((wrap .u64 (l+e):Int)>=1000000000)) (au (decide ((wrap .u64 (q-1):Int)<1000000000)) (LL SS bL [1,1,1,1,1,1,0,1,0,0] (dU a n c b m d (wrap .u64 (q-1)) (wrap .i64 ((m:Int)+1)) 0 0 0) (room h 28) (KK SS bL [1,1,1,1,1,1,0,1,0] [] (EE SS bL Q))) (aM (tE (fA a n c b m d) o) p [(.slice a n c),(.slice b m d),(iA m),(.int .u64 (wrap .u64 (q-1))),(.int .u64 (wrap .u64 (l+e)))] (room h 28))) (aM (tE (fA a n c b m d) o) p [(.slice a n c),(.slice b m d),(iA m),(.int .u64 (wrap .u64 (q-1))),(.int .u64 (wrap .u64 (l+e)))] (room h 28))) (au (decide (((m:Int):Int)>1)) (au (decide ((l:Int)<1000000000)) (iP 177 (.slice b m d) (.int .i64 (wrap .i64 ((m:Int)-2))) λk=>xI .u64 (aj SS.P 150 (room h 28) (.pointer (some k))) λj=>iP 177 (.slice a n c) (.int .i64 (wrap .i64 ((m:Int)-2))) λi=>xI .u64 (aj SS.P 150 (room h 28) (.pointer (some i))) λg=>au (decide ((wrap .u64 (q*j):Int)>wrap .u64 (wrap .u64 (l*1000000000)+g))) (iP 177 (.slice b m d) (.int .i64 (wrap .i64 ((m:Int)-1))) λf=>xI .u64 (aj SS.P 150 (room h 28) (.pointer (some f))) λe=>au (decide ((wrap .u64 (l+e):Int)>=1000000000)) (au (decide ((wrap .u64 (q-1):Int)<1000000000)) (LL SS bL [1,1,1,1,1,1,0,1,0,0] (dU a n c b m d (wrap .u64 (q-1)) (wrap .i64 ((m:Int)+1)) 0 0 0) (room h 28) (KK SS bL [1,1,1,1,1,1,0,1,0] [] (EE SS bL Q))) (aM (tE (fA a n c b m d) o) p [(.slice a n c),(.slice b m d),(iA m),(.int .u64 (wrap .u64 (q-1))),(.int .u64 (wrap .u64 (l+e)))] (room h 28))) (aM (tE (fA a n c b m d) o) p [(.slice a n c),(.slice b m d),(iA m),(.int .u64 (wrap .u64 (q-1))),(.int .u64 (wrap .u64 (l+e)))] (room h 28))) (LL SS bL [1,1,1,1,1,1,0,1,0,0] (dU a n c b m d q (wrap .i64 ((m:Int)+1)) 0 0 0) (room h 28) (KK SS bL [1,1,1,1,1,1,0,1,0] [] (EE SS bL Q)))) (LL SS bL [1,1,1,1,1,1,0,1,0,0] (dU a n c b m d q (wrap .i64 ((m:Int)+1)) 0 0 0) (room h 28) (KK SS bL [1,1,1,1,1,1,0,1,0] [] (EE SS bL Q)))) (LL SS bL [1,1,1,1,1,1,0,1,0,0] (dU a n c b m d q (wrap .i64 ((m:Int)+1)) 0 0 0) (room h 28) (KK SS bL [1,1,1,1,1,1,0,1,0] [] (EE SS bL Q))))) (p:Nat) {q l:Int} {h:ae} (r:o p q l h):LL SS bL [1,1,1,1,0,0,0] (fA a n c b m d q l) h (KK SS bL [1,1,1,1,0,0] [] (EE SS bL Q)):=
 pU (fA a n c b m d) o (λp q l s h r=>ai (step p q l s h r)) p r
theorem yX(a:OA)(n c:Nat)(b:OA)(m d:Nat)(q t:Int)(v:Nat->Nat->Int->Int->ae->Prop)(Q:VH)(step:∀(w:Nat) (i:Nat) (u cy:Int) (y:Nat->Value) (h:ae),v w i u cy h->au (decide (((i:Int):Int)<t)) (au (decide (((i:Int):Int)<(m:Int))) (iP 177 (.slice b m d) (iA i) λs=>xI .u64 (aj SS.P 150 h (.pointer (some s))) λr=>iP 177 (.slice a n c) (iA i) λp=>xI .u64 (aj SS.P 150 h (.pointer (some p))) λo=>xI .u64 (aB SS.P .rem 150 (.int .u64 (wrap .u64 (cy+wrap .u64 (q*r)))) (.int .u64 1000000000)) λl=>xI .u64 (aB SS.P .rem 150 (.int .u64 (wrap .u64 (wrap .u64 (wrap .u64 (o+1000000000)-l)-u))) (.int .u64 1000000000)) λk=>xI .u64 (aB SS.P .quo 150 (.int .u64 (wrap .u64 (wrap .u64 (wrap .u64 (o+1000000000)-l)-u))) (.int .u64 1000000000)) λj=>xI .u64 (aB SS.P .quo 150 (.int .u64 (wrap .u64 (cy+wrap .u64 (q*r)))) (.int .u64 1000000000)) λg=>iP 177 (.slice a n c) (iA i) λf=>xU (ah SS.P 150 (.pointer (some f)) (.int .u64 k) h) h λ_ e=>aM (LA3 (dU a n c b m d q t) v) w [(.slice a n c),(.slice b m d),(iA m),(.int .u64 q),(.int .u64 (wrap .u64 (1-j))),(.int .u64 g),(.int .i64 t),(.int .i64 (wrap .i64 ((i:Int)+1)))] e) (iP 177 (.slice a n c) (iA i) λp=>xI .u64 (aj SS.P 150 h (.pointer (some p))) λo=>xI .u64 (aB SS.P .rem 150 (.int .u64 cy) (.int .u64 1000000000)) λl=>xI .u64 (aB SS.P .rem 150 (.int .u64 (wrap .u64 (wrap .u64 (wrap .u64 (o+1000000000)-l)-u))) (.int .u64 1000000000)) λk=>xI .u64 (aB SS.P .quo 150 (.int .u64 (wrap .u64 (wrap .u64 (wrap .u64 (o+1000000000)-l)-u))) (.int .u64 1000000000)) λj=>xI .u64 (aB SS.P .quo 150 (.int .u64 cy) (.int .u64 1000000000)) λg=>iP 177 (.slice a n c) (iA i) λf=>xU (ah SS.P 150 (.pointer (some f)) (.int .u64 k) h) h λ_ e=>aM (LA3 (dU a n c b m d q t) v) w [(.slice a n c),(.slice b m d),(iA m),(.int .u64 q),(.int .u64 (wrap .u64 (1-j))),(.int .u64 g),(.int .i64 t),(.int .i64 (wrap .i64 ((i:Int)+1)))] e)) (au (((u:Int)==0)) (Q (.int .u64 q) h) (LL SS bL [1,1,1,1,1,1,1,1,1,0,1,0,0] (iV a n c b m d q (wrap .i64 ((m:Int)+1)) 0 0) h (KK SS bL [1,1,1,1,1,1,1,1,1,0,1,0] [] (EE SS bL Q)))))(w:Nat){i:Nat}{u cy:Int}{h:ae}(x:v w i u cy h):LL SS bL [1,1,1,1,1,1,0,1,0,0] (dU a n c b m d q t i u cy) h (KK SS bL [1,1,1,1,1,1,0,1,0] [] (EE SS bL Q)):=
 Yc (dU a n c b m d q t) v (λw i u cy y h x=>ai (step w i u cy y h x)) w x
theorem yY(a:OA)(n c:Nat)(b:OA)(m d:Nat)(q r:Int)(s:Nat->Nat->Int->ae->Prop)(Q:VH)(step:∀(t:Nat) (i:Nat) (cy:Int) (v:Nat->Value) (h:ae),s t i cy h->au (decide (((i:Int):Int)<r)) (iP 177 (.slice a n c) (iA i) λp=>xI .u64 (aj SS.P 150 h (.pointer (some p))) λo=>au (decide (((i:Int):Int)<(m:Int))) (iP 177 (.slice b m d) (iA i) λl=>xI .u64 (aj SS.P 150 h (.pointer (some l))) λk=>xI .u64 (aB SS.P .rem 150 (.int .u64 (wrap .u64 (wrap .u64 (o+cy)+k))) (.int .u64 1000000000)) λj=>xI .u64 (aB SS.P .quo 150 (.int .u64 (wrap .u64 (wrap .u64 (o+cy)+k))) (.int .u64 1000000000)) λg=>iP 177 (.slice a n c) (iA i) λf=>xU (ah SS.P 150 (.pointer (some f)) (.int .u64 j) h) h λ_ e=>aM (tE (iV a n c b m d q r) s) t [(.slice a n c),(.slice b m d),(iA m),(.int .u64 q),(.int .u64 g),(.int .i64 r),(.int .i64 (wrap .i64 ((i:Int)+1)))] e) (xI .u64 (aB SS.P .rem 150 (.int .u64 (wrap .u64 (o+cy))) (.int .u64 1000000000)) λj=>xI .u64 (aB SS.P .quo 150 (.int .u64 (wrap .u64 (o+cy))) (.int .u64 1000000000)) λg=>iP 177 (.slice a n c) (iA i) λf=>xU (ah SS.P 150 (.pointer (some f)) (.int .u64 j) h) h λ_ e=>aM (tE (iV a n c b m d q r) s) t [(.slice a n c),(.slice b m d),(iA m),(.int .u64 q),(.int .u64 g),(.int .i64 r),(.int .i64 (wrap .i64 ((i:Int)+1)))] e)) (Q (.int .u64 (wrap .u64 (q-1))) h))(t:Nat){i:Nat}{cy:Int}{h:ae}(u:s t i cy h):LL SS bL [1,1,1,1,1,1,1,1,1,0,1,0,0] (iV a n c b m d q r i cy) h (KK SS bL [1,1,1,1,1,1,1,1,1,0,1,0] [] (EE SS bL Q)):=
 pU (iV a n c b m d q r) s (λt i cy v h u=>ai (step t i cy v h u)) t u
noncomputable def cN:FD:=dq Tryz.f189 [([1,1,1,1,1,0,0,0],[0,1,6,7,8,9]),([1,1,1,1,1,1,1,0,1,0,0],[0,1,4,6,7,8,9,49,50]),([1,1,1,1,1,1,1,1,1,1,0,1,0,0],[4,5,7,12,74,75])]
abbrev jX(a:OA)(n c:Nat)(b:OA)(m d:Nat)(j:Int)(e:OA)(f h:Nat)(r:OA)(g i:Nat):LV:=[(.slice a n c),(.slice b m d),(iA m),(.int .u64 j),(.slice r g i),(.slice e f h)]
abbrev jY(a:OA)(n c:Nat)(b:OA)(m d:Nat)(p:Int)(g:OA)(q l:Nat)(r:OA)(j o:Nat)(e:OA)(h k:Nat)(f:Int)(i:Nat):LV:=[(.slice a n c),(.slice b m d),(.slice g q l),(iA m),(.int .u64 p),(.slice r j o),(.slice e h k),(.int .i64 f),(iA i)]
abbrev jZ(e:Int)(g:OA)(f c:Nat)(r:OA)(b d:Nat)(a:Int)(i:Nat)(left:Int):LV:=[(.slice g f c),(.slice r b d),(.int .u64 e),(.int .u64 left),(.int .i64 a),(iA i)]
theorem J4(a:OA)(n c:Nat)(b:OA)(m d:Nat)(h:ae)(Q:VH)(w:FW SS 186 [(.slice a n c),(.slice b m d)] h λu v=>yI .i64 u λt=>au (decide ((t:Int)<0)) (Q (.tuple ⟨[nA,(.slice a n c)]⟩) v) (iP 177 (.slice b m d) (.int .i64 (wrap .i64 ((m:Int)-1))) λs=>xI .u64 (aj SS.P 150 v (.pointer (some s))) λr=>xI .u64 (aB SS.P .quo 150 (.int .u64 1000000000) (.int .u64 (wrap .u64 (r+1)))) λq=>FW SS 202 [(.slice a n c),(.int .u64 q)] v λo p=>yL o λj k l=>FW SS 202 [(.slice b m d),(.int .u64 q)] p λh i=>yL h λe f g=>LL SS cN [1,1,1,1,1,0,0,0] (jX a n c b m d q e f g j k l) i (KK SS cN [1,1,1,1,1,0,0] [] (EE SS cN Q)))):FW SS 189 [(.slice a n c),(.slice b m d)] h Q:=du cN Tryz.func189 (ai w)
theorem xe(a:OA)(n c:Nat)(b:OA)(m d:Nat)(v:Int)(e:OA)(t u:Nat)(s:Nat->OA->Nat->Nat->ae->Prop)(Q:VH)(step:∀(q:Nat) (r:OA) (o p:Nat) (x:Nat->Value) (h:ae),s q r o p h->au (decide (((o:Int):Int)<=(n:Int))) (xR (aJ SS.P 177 1 [(0,(.int .u64 0))]) h λ_ j k l=>xE (bR SS.P 177 177 (.slice r o p) (sA (h.next) j k) l) l λf g h _ i=>aM (LA3 (jX a n c b m d v e t u) s) q [(.slice a n c),(.slice b m d),(iA m),(.int .u64 v),(.slice f g h),(.slice e t u)] i) (xR (cF SS.P 177 (.int .i64 (wrap .i64 ((o:Int)-(m:Int)))) (.int .i64 (wrap .i64 ((o:Int)-(m:Int))))) h λ_ f g i=>LL SS cN [1,1,1,1,1,1,1,0,1,0,0] (jY a n c b m d v (some ⟨h.next,0,none⟩) f g r o p e t u (f:Int) 0) i (KK SS cN [1,1,1,1,1,1,1,0,1,0] [] (EE SS cN Q))))(q:Nat){r:OA}{o p:Nat}{h:ae}(w:s q r o p h):LL SS cN [1,1,1,1,1,0,0,0] (jX a n c b m d v e t u r o p) h (KK SS cN [1,1,1,1,1,0,0] [] (EE SS cN Q)):=
 Yc (jX a n c b m d v e t u) s (λq r o p x h w=>ai (step q r o p x h w)) q w
theorem xf(a:OA)(n c:Nat)(b:OA)(m d:Nat)(B:Int)(g:OA)(s x:Nat)(r:OA)(w y:Nat)(e:OA)(z A:Nat)(t:Int)(v:Nat->Nat->ae->Prop)(Q:VH)(step:∀(u:Nat) (i:Nat) (D:Nat->Value) (h:ae),v u i h->au (decide (((i:Int):Int)<t)) (xL (cg SS.P 177 (.slice r w y) (some (.int .i64 (wrap .i64 (wrap .i64 ((s:Int)-1)-(i:Int))))) (some (.int .i64 (wrap .i64 (wrap .i64 (wrap .i64 (wrap .i64 ((s:Int)-1)-(i:Int))+(m:Int))+1)))) none h) λo p q=>FW SS 203 [(.slice o p q),(.slice e z A)] h λk l=>yI .u64 k λj=>xP (aD SS.P 177 (.slice g s x) (.int .i64 (wrap .i64 (wrap .i64 ((s:Int)-1)-(i:Int))))) λh=>xU (ah SS.P 150 (.pointer (some h)) (.int .u64 j) l) l λ_ f=>aM (gp (jY a n c b m d B g s x r w y e z A t) v) u [(.slice a n c),(.slice b m d),(.slice g s x),(iA m),(.int .u64 B),(.slice r w y),(.slice e z A),(.int .i64 t),(.int .i64 (wrap .i64 ((i:Int)+1)))] f) (FW SS 174 [(.slice r w y)] h λd e=>yL d λa b c=>LL SS cN [1,1,1,1,1,1,1,1,1,1,0,1,0,0] (jZ B g s x a b c (b:Int) 0 0) e (KK SS cN [1,1,1,1,1,1,1,1,1,1,0,1,0] [] (EE SS cN Q))))(u:Nat){i:Nat}{h:ae}(C:v u i h):LL SS cN [1,1,1,1,1,1,1,0,1,0,0] (jY a n c b m d B g s x r w y e z A t i) h (KK SS cN [1,1,1,1,1,1,1,0,1,0] [] (EE SS cN Q)):=
 dJ (jY a n c b m d B g s x r w y e z A t) v (λu i D h C=>ai (step u i D h C)) u C
theorem xg(a:OA)(n c:Nat)(b:OA)(m d:Nat)(s:Int)(g:OA)(u t:Nat)(r:OA)(k p:Nat)(l:Int)(q:Nat->Nat->Int->ae->Prop)(Q:VH)(step:∀(o:Nat) (i:Nat) (left:Int) (w:Nat->Value) (h:ae),q o i left h->au (decide (((i:Int):Int)<l)) (xP (aD SS.P 177 (.slice r k p) (.int .i64 (wrap .i64 (wrap .i64 ((k:Int)-1)-(i:Int))))) λf=>xI .u64 (aj SS.P 150 h (.pointer (some f))) λe=>xI .u64 (aB SS.P .quo 150 (.int .u64 (wrap .u64 (wrap .u64 (left*1000000000)+e))) (.int .u64 s)) λd=>xI .u64 (aB SS.P .rem 150 (.int .u64 (wrap .u64 (wrap .u64 (left*1000000000)+e))) (.int .u64 s)) λc=>xP (aD SS.P 177 (.slice r k p) (.int .i64 (wrap .i64 (wrap .i64 ((k:Int)-1)-(i:Int))))) λb=>xU (ah SS.P 150 (.pointer (some b)) (.int .u64 d) (room h 11)) (room h 11) λ_ a=>aM (tE (jZ s g u t r k p l) q) o [(.slice g u t),(.slice r k p),(.int .u64 s),(.int .u64 c),(.int .i64 l),(.int .i64 (wrap .i64 ((i:Int)+1)))] a) (FW SS 174 [(.slice g u t)] h λi j=>yL i λf g h=>FW SS 174 [(.slice r k p)] j λd e=>yL d λa b c=>Q (.tuple ⟨[(.slice f g h),(.slice a b c)]⟩) e))(o:Nat){i:Nat}{left:Int}{h:ae}(v:q o i left h):LL SS cN [1,1,1,1,1,1,1,1,1,1,0,1,0,0] (jZ s g u t r k p l i left) h (KK SS cN [1,1,1,1,1,1,1,1,1,1,0,1,0] [] (EE SS cN Q)):=
 pU (jZ s g u t r k p l) q (λo i left w h v=>ai (step o i left w h v)) o v
end Go.Proofs.YtaaichlgdgjgjaaGreatDoor
end
