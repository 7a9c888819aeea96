/- Laws and walks that the proof leans on (part 3): NumRatV; NumStar; NumSemi; NumSem; NumOps; NumNet and others. No condition. -/
import Derived.Test.YtaaichlgdgjgjaaGreatDoorPart2
import Derived.Test.YtaaichlgdgjgjaaGreatDoorProg
set_option linter.unusedVariables false
set_option linter.unusedSimpArgs false
set_option maxRecDepth 100000
open List (all_eq_true append_assoc drop_eq_getElem_cons drop_zero getElem?_map getElem_mem length_drop length_replicate length_set length_take map_append map_set mem_append mem_cons_self mem_singleton take_of_length_le take_zero)
open Nat (lt_irrefl lt_or_ge mod_lt mul_pos ne_of_gt)
open Option (getD_some)
open Go.IntKind (wrap)
section
namespace Go.Num
variable{n:Nat}{m:Nat}
def eU(s:Bool)(n:Nat):Int:=if s=true then -(n:Int)else n
def bj(a:List UInt8):Rat:=mkRat (eU (isNeg a) (val (numOf a))) (val (ak a))
def cE(s:Bool)(n d:Nat):List UInt8:=(if s=true/\n≠0 then[45]else[])++(ag n++(if d=1 then[]else 47::ag d))
theorem Gt(n:Nat):∃c r,ag n=c::r/\bN c=true:=by
 have h:=cP n
 cases e:ag n with
 |nil=>grind[qZ]
 |cons c r=>grind
theorem B6{c:UInt8}(r:List UInt8):∀{l:List UInt8},(∀x∈l,x≠c)->cD c (l++r)=l.length+cD c r
 |[],_=>by simp
 |x::l,h=>by
  show(if x=c then 0 else cD c (l++r)+1)=_;rw[if_neg (h x (mem_cons_self ..)),B6 r λy a=>h y (List.mem_cons_of_mem _ a),List.length_cons];omega
theorem Ry{c:UInt8}(b:bN c=false):∀x∈ag n,x≠c:=λx a e=>by grind[cP]
structure BQ(a:List UInt8)(s:Bool)(n d:Nat):Prop where
 neg:isNeg a=s
 num:numOf a=ag n
 den:ak a=ag d
 str:bo a=decide (d≠1)
theorem H6(s:Bool)(n d:Nat):isNeg (cE s n d)=decide (s=true/\n≠0)/\bm (cE s n d)=ag n++(if d=1 then[]else 47::ag d):=by
 have b:isNeg (cE s n d)=decide (s=true/\n≠0):=by
  unfold cE isNeg;by_cases c:s=true/\n≠0
  ·rw[if_pos c,decide_eq_true c];rfl
  ·rw[if_neg c,decide_eq_false c];obtain⟨x,r,e,a⟩:=Gt n;rw[e];show(some x==some 45)=false;have:x≠45:=λe=>by rw[e]at a;exact absurd a (by decide)
   simpa using this
 refine⟨b,?_⟩;unfold bm;rw[b];unfold cE
 grind
theorem wT(s:Bool)(n d:Nat):BQ (cE s n d) (decide (s=true/\n≠0)) n d:=by
 obtain⟨b,e⟩:=H6 s n d;have f:cD 47 (ag n++(if d=1 then[]else 47::ag d))=(ag n).length:=by
  rw[B6 _ (Ry (by decide))];split
  ·rfl
  ·rfl
 have a:bo (cE s n d)=decide (d≠1):=by
  unfold bo;rw[e,f];by_cases c:d=1
  ·grind
  ·grind
 refine⟨b,?_,?_,a⟩
 ·simp_all[numOf]
 ·unfold ak;rw[a];by_cases c:d=1
  all_goals simp_all[Ar]
theorem qW(s:Bool):eU s 0=0:=by grind[eU]
theorem Ot(s:Bool)(n:Nat):eU (decide (s=true/\n≠0)) n=eU s n:=by
 by_cases c:n=0
 ·subst c;rw[qW,qW]
 simp_all
theorem ue(s:Bool)(n:Nat):(eU s n).natAbs=n:=by grind[eU]
theorem BQ.val{a:List UInt8}{s:Bool}(p:BQ a s n m):bj a=mkRat (eU s n) m:=by
 unfold bj;rw[p.neg,p.num,p.den,bu,bu]
theorem Ca(s:Bool)(n d:Nat):bj (cE s n d)=mkRat (eU s n) d:=by rw[(wT s n d).val,Ot]
theorem Ap{s:Bool}(c:(ag n).length<=400)(e:(ag m).length<=400)(d:0<m)(f:Nat.gcd n m=1):aA (cE s n m)=true:=by
 have p:=wT s n m;have b:∀a,(ag a).length<=400->valid (ag a)=true:=λa h=>gi.2 ⟨vh a,by omega⟩;refine aY.2 ⟨?_,?_,?_,?_,?_,?_,?_⟩
 ·rw[p.num];grind
 ·rw[p.den];grind
 ·rw[p.num];omega
 ·rw[p.den];omega
 ·rw[p.neg,p.num,bI]
  grind
 ·rw[p.str,p.den,bI,eh]
  grind
 ·rw[p.num,p.den,bu,bu];omega
theorem gM.den_pos{a:List UInt8}(r:gM a):0<val (ak a):=by
 refine Nat.pos_of_ne_zero λe=>?_;have h:=(iq r.den).2 e
 cases b:bo a with
 |true=>exact r.fr ⟨b,.inl h⟩
 |false=>grind[ak]
theorem gM.txt{a:List UInt8}(r:gM a):a=cE (isNeg a) (val (numOf a)) (val (ak a)):=by
 obtain⟨n,o,_,k⟩:=cq r.num;obtain⟨d,q,_,f⟩:=cq r.den;have s:(if isNeg a=true/\val (numOf a)≠0 then[45]else([]:List UInt8))=if isNeg a=true then[45]else[]:=by
  by_cases c:isNeg a=true
  ·rw[if_pos c,if_pos ⟨c,λe=>r.neg ⟨c,(iq r.num).2 e⟩⟩]
  ·rw[if_neg c,if_neg λh=>c h.1]
 have u:a=(if isNeg a=true then[45]else[])++bm a:=by
  unfold bm;by_cases c:isNeg a=true
  ·rw[if_pos c,if_pos c];unfold isNeg at c
   cases a with
   |nil=>cases c
   |cons x l=>
    have:x=45:=by simpa using c
    rw[this];rfl
  ·rw[if_neg c,if_neg c];rfl
 have g:bo a=true↔val (ak a)≠1:=by
  constructor
  ·exact λh e=>r.fr ⟨h,.inr ((te r.den).2 e)⟩
  ·intro h
   cases c:bo a with
   |true=>rfl
   |false=>
    refine absurd ?_ h;unfold ak;rw[c];exact Iu
 have t:bm a=ag (val (numOf a))++(if val (ak a)=1 then[]else 47::ag (val (ak a))):=by
  rw[k,f,<-o,<-q];by_cases c:bo a=true
  ·rw[if_neg (by rw[<-f];exact g.1 c)];have i:ak a=(bm a).drop (cD 47 (bm a)+1):=by unfold ak;rw[if_pos c]
   rw[i];unfold numOf;unfold bo at c;have c:=dT c;have b:∀{l:List UInt8},cD 47 l<l.length->l=l.take (cD 47 l)++47::l.drop (cD 47 l+1):=λ{l}=>by
    induction l with
    |nil=>intro h;simp at h
    | cons x l p=>
     intro h;by_cases e:x=47
     ·have:cD 47 (x::l)=0:=by unfold cD;rw[if_pos e]
      rw[this,e];rfl
     ·have j:cD 47 (x::l)=cD 47 l+1:=by unfold cD;rw[if_neg e];cases l<;>rfl
      rw[j,List.take_succ_cons,List.drop_succ_cons,List.cons_append,<-p (by rw[j]at h;simpa using h)]
   exact b c
  ·have m:val (ak a)=1:=Classical.byContradiction λh=>c (g.2 h);rw[if_pos (by rw[<-f];exact m),List.append_nil];unfold numOf;unfold bo at c;rw[take_of_length_le (by simp at c;exact c)]
 grind[cE]
theorem gM.wk{a:List UInt8}(r:gM a):(bj a).num=eU (isNeg a) (val (numOf a)):=by
 unfold bj;rw[Rat.num_mkRat,if_neg (ne_of_gt r.den_pos),ue,Nat.gcd_comm,r.one];simp
theorem gM.GJ{a:List UInt8}(r:gM a):(bj a).den=val (ak a):=by
 unfold bj;rw[Rat.den_mkRat,if_neg (ne_of_gt r.den_pos),ue,Nat.gcd_comm,r.one];simp
theorem vQ{a b:List UInt8}(m:aA a=true)(i:aA b=true)(e:bj a=bj b):a=b:=by
 have f:=aY.1 m;have d:=aY.1 i;have g:=f.wk;have h:=f.GJ;rw[e,d.wk]at g;rw[e,d.GJ]at h;have l:val (numOf a)=val (numOf b):=by
  have:=congrArg Int.natAbs g;rw[ue,ue]at this;exact this.symm
 rw[f.txt,d.txt,<-h,<-l];congr 1;by_cases n:val (numOf a)=0
 ·have j:isNeg a=false:=by
   cases c:isNeg a with
   |false=>rfl
   |true=>exact absurd ⟨c,(iq f.num).2 n⟩ f.neg
  have k:isNeg b=false:=by
   cases c:isNeg b with
   |false=>rfl
   |true=>exact absurd ⟨c,(iq d.num).2 (by omega)⟩ d.neg
  rw[j,k]
 grind[eU]
theorem Cc(s:Bool)(A:Nat)(t:Bool)(B:Nat):eU (dD s A t B).1 (dD s A t B).2=eU s A+eU t B:=by
 unfold dD eU
 grind
theorem EX(s:Bool)(n:Nat):eU (!s) n = - eU s n:=by grind[eU]
theorem RD{s:Bool}:eU s n<0↔s=true/\n≠0:=by grind[eU]
theorem Im{s:Bool}:eU s n=0↔n=0:=by grind[eU]
theorem EW(s t:Bool)(m n:Nat):eU (s !=t) (m*n)=eU s m*eU t n:=by unfold eU;grind
theorem mq(s:Bool)(m n:Nat):eU s (m*n)=eU s m*n:=by grind[eU]
theorem Am{a b:List UInt8}(f:aA a=true)(c:aA b=true):(cZ a b<0↔bj a<bj b)/\(cZ a b=0↔bj a=bj b):=by
 have e:=aY.1 f;have d:=aY.1 c;unfold cZ;rw[if_pos ⟨f,c⟩];have h:=Cc (isNeg a) (val (numOf a)*val (ak b)) (!isNeg b) (val (numOf b)*val (ak a));generalize dD (isNeg a) (val (numOf a)*val (ak b)) (!isNeg b) (val (numOf b)*val (ak a))=z at*;rw[EX,mq,mq,<-e.wk,<-d.wk,<-e.GJ,<-d.GJ]at h;rw[Rat.lt_iff,Rat.eq_iff_mul_eq_mul];have g:=RD (s:=z.1) (n:=z.2);have i:=Im (s:=z.1) (n:=z.2)
 grind
def lO(s:Bool)(n d:Nat):Option (List UInt8):=if 400<(ag (n/Nat.gcd n d)).length\/400<(ag (d/Nat.gcd n d)).length then none else some (cE s (n/Nat.gcd n d) (d/Nat.gcd n d))
def qc(a b:List UInt8):Option (List UInt8):=lO (dD (isNeg a) (val (numOf a)*val (ak b)) (isNeg b) (val (numOf b)*val (ak a))).1 (dD (isNeg a) (val (numOf a)*val (ak b)) (isNeg b) (val (numOf b)*val (ak a))).2 (val (ak a)*val (ak b))
def B8(a b:List UInt8):Option (List UInt8):=lO (isNeg a !=isNeg b) (val (numOf a)*val (numOf b)) (val (ak a)*val (ak b))
def Gp(a b:List UInt8):Option (List UInt8):=lO (isNeg a !=isNeg b) (val (numOf a)*val (ak b)) (val (ak a)*val (numOf b))
def qd(a:List UInt8):List UInt8:=cE (!isNeg a) (val (numOf a)) (val (ak a))
theorem sZ{s:Bool}{c:List UInt8}(b:0<m)(h:lO s n m=some c):aA c=true/\bj c=mkRat (eU s n) m:=by
 unfold lO at h;split at h
 ·cases h
 ·next g=>
  obtain rfl:=oI h;have e:0<Nat.gcd n m:=Nat.gcd_pos_of_pos_right n b;have f:=Nat.gcd_dvd_left n m;have d:=Nat.gcd_dvd_right n m;have a:0<m/Nat.gcd n m:=Nat.div_pos (Nat.le_of_dvd b d) e;refine⟨Ap (by omega) (by omega) a ?_,?_⟩
  ·grind[Nat.gcd_div,Nat.div_self]
  ·rw[Ca,Rat.mkRat_eq_iff (ne_of_gt a) (ne_of_gt b),<-mq,<-mq]
   grind[Nat.div_mul_cancel,Nat.mul_assoc]
theorem K3{s:Bool}(a:(ag n).length<=400)(b:(ag m).length<=400)(c:Nat.gcd n m=1):lO s n m=some (cE s n m):=by simp_all[lO]
theorem pC{a b c:List UInt8}(j:aA a=true)(f:aA b=true)(h:qc a b=some c):aA c=true/\bj c=bj a+bj b:=by
 have e:=aY.1 j;have d:=aY.1 f;obtain⟨g,i⟩:=sZ (mul_pos e.den_pos d.den_pos) h;refine⟨g,?_⟩;rw[i,Cc,mq,mq];unfold bj;rw[Rat.mkRat_add_mkRat _ _ (ne_of_gt e.den_pos) (ne_of_gt d.den_pos)]
theorem Ih{a b c:List UInt8}(g:aA a=true)(d:aA b=true)(h:B8 a b=some c):aA c=true/\bj c=bj a*bj b:=by
 have f:=aY.1 g;have e:=aY.1 d;obtain⟨i,j⟩:=sZ (mul_pos f.den_pos e.den_pos) h
 grind[EW,Rat.mkRat_mul_mkRat,bj]
theorem H9{a b c:List UInt8}(l:aA a=true)(i:aA b=true)(f:val (numOf b)≠0)(h:Gp a b=some c):aA c=true/\bj c=bj a*(bj b)⁻¹:=by
 have d:=aY.1 l;have g:=aY.1 i;obtain⟨j,k⟩:=sZ (mul_pos d.den_pos (Nat.pos_of_ne_zero f)) h;refine⟨j,?_⟩;have m:bj c*bj b=bj a:=by
  rw[k,EW];unfold bj;rw[Rat.mkRat_mul_mkRat,Rat.mkRat_eq_iff (ne_of_gt (mul_pos (mul_pos d.den_pos (Nat.pos_of_ne_zero f)) g.den_pos)) (ne_of_gt d.den_pos)];have e:∀(s t:Bool)(A B C D:Nat),eU s A*eU t B*eU t C*(D:Int)=eU s A*((D*C*B:Nat):Int):=λs t A B C D=>by
   unfold eU
   cases s<;>cases t<;>simp<;>grind
  exact e _ _ _ _ _ _
 have n:bj b≠0:=λe=>f (by
  have:=g.wk;rw[e]at this;exact Im.1 this.symm)
 grind
theorem ud{a:List UInt8}(g:aA a=true):aA (qd a)=true/\bj (qd a) = - bj a:=by
 have b:=aY.1 g;obtain⟨n,e,_,c⟩:=cq b.num;obtain⟨d,f,_,h⟩:=cq b.den;unfold qd;refine⟨Ap ?_ ?_ b.den_pos b.one,?_⟩
 ·rw[c,<-e];exact b.ln
 ·rw[h,<-f];exact b.ld
 grind[Ca,EX,Rat.neg_mkRat,bj]
section
structure bd(K:Type) where
 zero:K
 one:K
 add:K->K->K
 mul:K->K->K
 star:K->K
 le:K->K->Prop
 add_assoc:∀a b c,add (add a b) c=add a (add b c)
 add_comm:∀a b,add a b=add b a
 zero_add:∀a,add zero a=a
 mul_assoc:∀a b c,mul (mul a b) c=mul a (mul b c)
 mul_comm:∀a b,mul a b=mul b a
 one_mul:∀a,mul one a=a
 zero_mul:∀a,mul zero a=zero
 mul_add:∀a b c,mul a (add b c)=add (mul a b) (mul a c)
 le_refl:∀a,le a a
 le_trans:∀{a b c},le a b->le b c->le a c
 G0:∀{a b},le a b->le b a->a=b
 zero_le:∀a,le zero a
 Ck:∀{a b c d},le a b->le c d->le (add a c) (add b d)
 LW:∀{a b}(c),le a b->le (mul c a) (mul c b)
 yw:∀a,add one (mul a (star a))=star a
 se:∀{a b x},le (add b (mul a x)) x->le (mul (star a) b) x
namespace bd
def cW{K:Type}(S:bd K)(f:Nat->K):Nat->K
 |0=>S.zero
 |n+1=>S.add (cW S f n) (f n)
variable {K:Type} {S:bd K}
theorem add_zero(a:K):S.add a S.zero=a:=by rw[S.add_comm,S.zero_add]
theorem mul_zero(a:K):S.mul a S.zero=S.zero:=by rw[S.mul_comm,S.zero_mul]
theorem mul_one(a:K):S.mul a S.one=a:=by rw[S.mul_comm,S.one_mul]
theorem add_mul(a b c:K):S.mul (S.add a b) c=S.add (S.mul a c) (S.mul b c):=by rw[S.mul_comm,S.mul_add,S.mul_comm c a,S.mul_comm c b]
theorem Eg(a b c:K):S.add a (S.add b c)=S.add b (S.add a c):=by rw[<-S.add_assoc,S.add_comm a b,S.add_assoc]
theorem abc(a b c d:K):S.add (S.add a b) (S.add c d)=S.add (S.add a c) (S.add b d):=by rw[S.add_assoc,S.add_assoc,Eg b c d]
theorem aN{f g:Nat->K}:∀{n:Nat},(∀i,i<n->f i=g i)->S.cW f n=S.cW g n
 |0,_=>rfl
 |n+1,h=>by
  show S.add _ _=S.add _ _;rw[aN λi a=>h i (Nat.lt_succ_of_lt a),h n (Nat.lt_succ_self n)]
theorem ji(f g:Nat->K):∀n,S.cW (λi=>S.add (f i) (g i)) n=S.add (S.cW f n) (S.cW g n)
 |0=>(S.zero_add _).symm
 |n+1=>by
  show S.add (S.cW _ n) _=S.add (S.add _ _) (S.add _ _);rw[ji f g n,abc]
theorem yz(c:K)(f:Nat->K):∀n,S.cW (λi=>S.mul c (f i)) n=S.mul c (S.cW f n)
 |0=>(mul_zero c).symm
 |n+1=>by
  show S.add (S.cW _ n) _=S.mul c (S.add _ _);rw[yz c f n,S.mul_add]
theorem uL(c:K)(f:Nat->K)(n:Nat):S.cW (λi=>S.mul (f i) c) n=S.mul (S.cW f n) c:=by
 rw[S.mul_comm,<-yz];exact aN λi _=>S.mul_comm _ _
theorem gr:∀n,S.cW (λ_=>S.zero) n=S.zero
 |0=>rfl
 |n+1=>by
  show S.add (S.cW _ n) _=_;rw[gr n,S.zero_add]
theorem yC(f:Nat->Nat->K)(m:Nat):∀n,S.cW (λi=>S.cW (f i) m) n=S.cW (λj=>S.cW (λi=>f i j) n) m
 |0=>(gr m).symm
 |n+1=>by
  show S.add (S.cW _ n) _=_;rw[yC f m n,<-ji];rfl
theorem le_of_eq{a b:K}(h:a=b):S.le a b:=h▸S.le_refl a
def elim{K:Type}(S:bd K)(a:Nat->Nat->K):Nat->Nat->Nat->K
 |0=>a
 |k+1=>λi j=>S.add (elim S a k i j) (S.mul (S.mul (elim S a k i k) (S.star (elim S a k k k))) (elim S a k k j))
theorem U4(a b:K):S.add b (S.mul (S.mul b (S.star a)) a)=S.mul b (S.star a):=by
 have h:S.mul b (S.add S.one (S.mul a (S.star a)))=S.mul b (S.star a):=by rw[S.yw]
 rw[S.mul_add,mul_one]at h;rw[S.mul_assoc,S.mul_comm (S.star a) a];exact h
theorem NA(a:Nat->Nat->K):∀(k i j:Nat),elim S a k i j=S.add (a i j) (S.cW (λl=>S.mul (a i l) (elim S a k l j)) k)
 |0,i,j=>(add_zero _).symm
 | k+1,i,j=>by
  have b:=NA a k;show S.add (elim S a k i j) _=S.add (a i j) (S.add (S.cW _ k) (S.mul (a i k) (elim S a (k+1) k j)));have d:S.cW (λl=>S.mul (a i l) (elim S a (k+1) l j)) k=S.add (S.cW (λl=>S.mul (a i l) (elim S a k l j)) k) (S.mul (S.cW (λl=>S.mul (a i l) (elim S a k l k)) k) (S.mul (S.star (elim S a k k k)) (elim S a k k j))):=by
   rw[<-uL,<-ji];refine aN λl _=>?_;show S.mul (a i l) (S.add _ _)=_;rw[S.mul_add,S.mul_assoc,S.mul_assoc]
  have e:elim S a (k+1) k j=S.mul (S.star (elim S a k k k)) (elim S a k k j):=by
   show S.add (elim S a k k j) _=_;rw[S.mul_comm (elim S a k k k) _,S.mul_assoc];have h:=S.yw (elim S a k k k);have c:S.mul (S.add S.one (S.mul (elim S a k k k) (S.star (elim S a k k k)))) (elim S a k k j)=S.mul (S.star (elim S a k k k)) (elim S a k k j):=by rw[h]
   rw[add_mul,S.one_mul,S.mul_comm (elim S a k k k),S.mul_assoc]at c;exact c
  rw[d,e,S.add_assoc,<-S.add_assoc (a i j),<-b i j];congr 1;rw[<-add_mul,S.add_comm (S.cW _ _) (a i k),<-b i k,S.mul_assoc]
def HI(S:bd K)(a:Nat->Nat->K)(n:Nat)(c:Nat->K)(i:Nat):K:=S.add (c i) (S.cW (λj=>S.mul (elim S a n i j) (c j)) n)
theorem DA(a:Nat->Nat->K)(n:Nat)(c:Nat->K)(i:Nat):HI S a n c i=S.add (c i) (S.cW (λl=>S.mul (a i l) (HI S a n c l)) n):=by
 unfold HI;congr 1;have b:S.cW (λj=>S.mul (elim S a n i j) (c j)) n=S.add (S.cW (λj=>S.mul (a i j) (c j)) n) (S.cW (λj=>S.cW (λl=>S.mul (a i l) (S.mul (elim S a n l j) (c j))) n) n):=by
  rw[<-ji];refine aN λj _=>?_;rw[NA a n i j,add_mul,<-uL];congr 1;exact aN λl _=>S.mul_assoc _ _ _
 rw[b,yC,<-ji];refine aN λl _=>?_;rw[S.mul_add,yz]
theorem qN{f:Nat->K}(k:Nat):∀{n:Nat},k<=n->S.cW f n=S.add (S.cW f k) (S.cW (λi=>f (k+i)) (n-k))
 |0,h=>by
  obtain rfl:k=0:=by omega
  exact(S.zero_add _).symm
 | n+1,h=>by
  by_cases e:k=n+1
  ·subst e;rw[Nat.sub_self];exact(add_zero _).symm
  ·have a:k<=n:=by omega
   rw[show n+1-k=(n-k)+1 by omega];show S.add (S.cW f n) (f n)=S.add _ (S.add _ (f (k+(n-k))));rw[qN k a,S.add_assoc,show k+(n-k)=n by omega]
theorem NB(a:Nat->Nat->K){n:Nat}{c x:Nat->K}(o:∀i,i<n->S.le (S.add (c i) (S.cW (λj=>S.mul (a i j) (x j)) n)) (x i)):∀(k:Nat),k<=n->∀i,i<n->S.le (S.add (c i) (S.cW (λj=>S.mul (elim S a k i j) (if j<k then c j else x j)) n)) (x i)
 |0,_,i,l=>by
  have h:=o i l;exact h
 | k+1,y,i,l=>by
  have d:=NB a o k (by omega);have p:k<n:=by omega
  have b:∀(g:Nat->K),S.cW g n=S.add (g k) (S.cW (λj=>if j=k then S.zero else g j) n):=λg=>by
   have w:∀m,S.cW g m=S.add (if k<m then g k else S.zero) (S.cW (λj=>if j=k then S.zero else g j) m):=λm=>by
    induction m with
    |zero=>rw[if_neg (Nat.not_lt_zero k)];exact(S.zero_add _).symm
    | succ m d=>
     show S.add (S.cW g m) (g m)=S.add _ (S.add (S.cW _ m) (if m=k then S.zero else g m));rw[d];by_cases e:m=k
     ·subst e;rw[if_neg (lt_irrefl m),if_pos (Nat.lt_succ_self m),if_pos rfl,S.zero_add,add_zero,S.add_comm]
     ·by_cases h:k<m
      ·rw[if_pos h,if_pos (by omega),if_neg e,S.add_assoc]
      ·rw[if_neg h,if_neg (by omega),if_neg e,S.add_assoc]
   grind
  let s:=S.star (elim S a k k k)
  let r:=S.add (c k) (S.cW (λj=>if j=k then S.zero else S.mul (elim S a k k j) (if j<k then c j else x j)) n)
  have t:S.le (S.mul s r) (x k):=by
   refine S.se ?_;have h:=d k p;rw[b]at h;rw[if_neg (lt_irrefl k)]at h;refine S.le_trans (le_of_eq ?_) h;show S.add (S.add (c k) _) _=_;rw[S.add_assoc,S.add_comm (S.cW _ n)]
  have f:=d i l;rw[b]at f;rw[if_neg (lt_irrefl k)]at f;refine S.le_trans (le_of_eq ?_) (S.le_trans (S.Ck (S.le_refl (c i)) (S.Ck (S.LW (elim S a k i k) t) (S.le_refl (S.cW (λj=>if j=k then S.zero else S.mul (elim S a k i j) (if j<k then c j else x j)) n)))) f);congr 1;rw[b];rw[if_pos (Nat.lt_succ_self k)];have q:S.mul (elim S a (k+1) i k) (c k)=S.mul (elim S a k i k) (S.mul s (c k)):=by
   show S.mul (S.add _ _) _=_;rw[U4,S.mul_assoc]
  have v:S.mul (elim S a k i k) (S.mul s r)=S.add (S.mul (elim S a k i k) (S.mul s (c k))) (S.cW (λj=>if j=k then S.zero else S.mul (S.mul (S.mul (elim S a k i k) s) (elim S a k k j)) (if j<k then c j else x j)) n):=by
   show S.mul _ (S.mul s (S.add _ _))=_;rw[S.mul_add,S.mul_add];congr 1;rw[<-S.mul_assoc,<-yz];refine aN λj _=>?_;by_cases e:j=k
   ·rw[if_pos e,if_pos e,mul_zero]
   ·rw[if_neg e,if_neg e,S.mul_assoc (S.mul _ s)]
  rw[q,v,S.add_assoc,<-ji];congr 1;refine aN λj _=>?_;by_cases e:j=k
  ·rw[if_pos e,if_pos e,if_pos e,S.zero_add]
  ·rw[if_neg e,if_neg e,if_neg e];have u:(if j<k+1 then c j else x j)=if j<k then c j else x j:=by
    by_cases h:j<k
    ·grind
    ·grind
   rw[u];show S.mul (S.add _ _) _=_;rw[add_mul,S.add_comm]
theorem F0(a:Nat->Nat->K){n:Nat}{c x:Nat->K}(b:∀i,i<n->S.le (S.add (c i) (S.cW (λj=>S.mul (a i j) (x j)) n)) (x i)){i:Nat}(d:i<n):S.le (HI S a n c i) (x i):=by
 refine S.le_trans (le_of_eq ?_) (NB a b n (Nat.le_refl _) i d)
 simp_all[aN,HI]
end bd
end
end Go.Num
end
section
namespace Go.Num
inductive sK where
 |fin (q:Rat)
 |inf
 |low
namespace sK
def add:sK->sK->sK
 |low,_=>low
 |_,low=>low
 |inf,b=>b
 |a,inf=>a
 |fin p,fin q=>fin (if p<=q then p else q)
def mul:sK->sK->sK
 |inf,_=>inf
 |_,inf=>inf
 |low,_=>low
 |_,low=>low
 |fin p,fin q=>fin (p+q)
def star:sK->sK
 |inf=>fin 0
 |low=>low
 |fin p=>if 0<=p then fin 0 else low
def le:sK->sK->Prop
 |inf,_=>True
 |_,low=>True
 |fin p,fin q=>q<=p
 |_,_=>False
def S:bd sK where
 zero:=inf
 one:=fin 0
 add:=add
 mul:=mul
 star:=star
 le:=le
 add_assoc a b c:=by cases a<;>cases b<;>cases c<;>simp only[add]<;>(try rfl)<;>(grind)
 add_comm a b:=by cases a<;>cases b<;>simp only[add]<;>(grind)
 zero_add a:=by cases a<;>rfl
 mul_assoc a b c:=by cases a<;>cases b<;>cases c<;>simp only[mul]<;>(grind)
 mul_comm a b:=by cases a<;>cases b<;>simp only[mul]<;>(grind)
 one_mul a:=by cases a<;>simp only[mul]<;>(grind)
 zero_mul a:=by rfl
 mul_add a b c:=by cases a<;>cases b<;>cases c<;>simp only[mul,add]<;>(grind)
 le_refl a:=by cases a<;>simp only[le]<;>grind
 le_trans {a b c} e f:=by cases a<;>cases b<;>cases c<;>simp only[le]at*<;>grind
 G0 {a b} e f:=by cases a<;>cases b<;>simp only[le]at*<;>grind
 zero_le a:=by cases a<;>trivial
 Ck {a b c d} e f:=by cases a<;>cases b<;>cases c<;>cases d<;>simp only[le,add]at*<;>grind
 LW {a b} c h:=by cases a<;>cases b<;>cases c<;>simp only[le,mul]at*<;>grind
 yw a:=by
  cases a with
  |fin p=>grind[star,mul,add]
  |inf=>rfl
  |low=>rfl
 se {a b x} h:=by
  cases a with
  |fin p=>
   simp only[star];split<;>cases b<;>cases x<;>simp only[mul,add,le]at*<;>grind
  |inf=>cases b<;>cases x<;>simp only[star,mul,add,le]at*<;>grind
  |low=>cases b<;>cases x<;>simp only[star,mul,add,le]at*<;>grind
end sK
end Go.Num
namespace Go.Num
inductive fV where
 |fin (q:Rat) (h:0<=q)
 |inf
namespace fV
theorem ext{p q:Rat}{h:0<=p}{a:0<=q}(e:p=q):fin p h=fin q a:=by grind
def mul:fV->fV->fV
 |fin p b,fin q a=>fin (p*q) (Rat.mul_nonneg b a)
 |fin p b,inf=>if p=0 then fin 0 (by grind)else inf
 |inf,fin q a=>if q=0 then fin 0 (by grind)else inf
 |inf,inf=>inf
def add:fV->fV->fV
 |fin p b,fin q a=>fin (p+q) (by grind)
 |_,_=>inf
def le:fV->fV->Prop
 |_,inf=>True
 |fin p _,fin q _=>p<=q
 |inf,fin _ _=>False
theorem inv_pos{p:Rat}(h:p<1):0<=(1-p)⁻¹:=by grind[Rat.inv_pos]
def star:fV->fV
 |inf=>inf
 |fin p _=>if h:p<1 then fin (1-p)⁻¹ (inv_pos h)else inf
theorem aed{p q:Rat}:p*q=0↔p=0\/q=0:=by grind
theorem LU(a b c:fV):mul (mul a b) c=mul a (mul b c):=by
 cases a with
 | fin p f=>
  cases b with
  |fin q e=>
   cases c with
   |fin r d=>exact ext (Rat.mul_assoc p q r)
   |inf=>grind[mul]
  |inf=>
   cases c with
   |fin r d=>grind[mul]
   |inf=>grind[mul]
 | inf=>
  cases b with
  |fin q e=>
   cases c with
   |fin r d=>grind[mul]
   |inf=>grind[mul]
  |inf=>
   cases c with
   |fin r d=>grind[mul]
   |inf=>rfl
theorem Ft(a b:fV):mul a b=mul b a:=by
 cases a<;>cases b<;>simp only[mul]
 simp[Rat.mul_comm]
theorem TN(a:fV):mul (fin 1 (by grind)) a=a:=by
 cases a with
 |fin p b=>exact ext (Rat.one_mul p)
 |inf=>rfl
theorem Ak(a:fV):mul (fin 0 (by grind)) a=fin 0 (by grind):=by
 cases a with
 |fin p b=>exact ext (Rat.zero_mul p)
 |inf=>rfl
theorem TF(a b c:fV):mul a (add b c)=add (mul a b) (mul a c):=by
 cases a with
 |fin p e=>
  cases b<;>cases c<;>simp only[mul,add]
  ·exact ext (Rat.mul_add _ _ _)
  all_goals grind
 | inf=>
  cases b with
  |fin q d=>
   cases c with
   |fin r f=>grind[mul,add]
   |inf=>grind[mul,add]
  |inf=>rfl
theorem NL{a b:fV}(c:fV)(h:le a b):le (mul c a) (mul c b):=by
 cases c with
 | fin p i=>
  cases a with
  | fin q g=>
   cases b with
   |fin r d=>exact Rat.mul_le_mul_of_nonneg_left h i
   |inf=>
    simp only[mul];by_cases e:p=0
    all_goals simp_all[le]
  |inf=>
   cases b with
   |fin r d=>exact h.elim
   |inf=>grind[mul,le]
 | inf=>
  cases a with
  | fin q g=>
   cases b with
   | fin r d=>
    have h:q<=r:=h;simp only[mul];by_cases f:r=0
    ·have:q=0:=by grind
     simp[f,this,le]
    simp_all[le]
   |inf=>simp[mul,le]
  |inf=>
   cases b with
   |fin r d=>exact h.elim
   |inf=>simp[mul,le]
theorem inv_eq{p:Rat}(h:p<1):1+p*(1-p)⁻¹=(1-p)⁻¹:=by grind
theorem Pm{p b x:Rat}(h:p<1)(e:b+p*x<=x):(1-p)⁻¹*b<=x:=by
 have a:(1-p)⁻¹*(1-p)=1:=Rat.inv_mul_cancel _ (by grind);have c:b<=(1-p)*x:=by grind
 have d:=Rat.mul_le_mul_of_nonneg_left c (inv_pos h);have f:(1-p)⁻¹*((1-p)*x)=x:=by rw[<-Rat.mul_assoc,a,Rat.one_mul]
 grind
def S:bd fV where
 zero:=fin 0 (by grind)
 one:=fin 1 (by grind)
 add:=add
 mul:=mul
 star:=star
 le:=le
 add_assoc a b c:=by
  cases a<;>cases b<;>cases c<;>simp only[add]
  grind
 add_comm a b:=by
  cases a<;>cases b<;>simp only[add]
  grind
 zero_add a:=by
  cases a with
  |fin p i=>exact ext (Rat.zero_add p)
  |inf=>rfl
 mul_assoc:=LU
 mul_comm:=Ft
 one_mul:=TN
 zero_mul:=Ak
 mul_add:=TF
 le_refl a:=by cases a<;>simp only[le]<;>grind
 le_trans {a b c} f g:=by cases a<;>cases b<;>cases c<;>simp only[le]at*<;>grind
 G0 {a b} f g:=by
  cases a<;>cases b<;>simp only[le]at*
  grind
 zero_le a:=by cases a<;>simp only[le]<;>assumption
 Ck {a b c d} f g:=by cases a<;>cases b<;>cases c<;>cases d<;>simp only[le,add]at*<;>grind
 LW {a b} c h:=NL c h
 yw a:=by
  cases a with
  |fin p i=>
   simp only[star];split
   ·next h=>exact ext (inv_eq h)
   grind[mul,add]
  |inf=>rfl
 se {a b x} h:=by
  cases x with
  |inf=>grind[le]
  | fin r j=>
   cases b with
   |inf=>exact h.elim
   | fin q k=>
    cases a with
    | fin p i=>
     have h:q+p*r<=r:=h;simp only[star];split
     ·next f=>exact Pm f h
     ·next f=>
      have g:r<=p*r:=by
       have:=Rat.mul_le_mul_of_nonneg_right (show(1:Rat)<=p by grind) j
       grind
      grind[mul,le]
    | inf=>
     simp only[star,mul]at*;by_cases e:r=0
     ·subst e;simp only[if_pos rfl]at h;have h:q+0<=0:=h
      grind[le]
     ·rw[if_neg e]at h;exact h.elim
def max:fV->fV->fV
 |fin p b,fin q a=>fin (if p<=q then q else p) (by grind)
 |_,_=>inf
def tQ:fV->fV
 |inf=>inf
 |fin p _=>if p<=1 then fin 1 (by grind)else inf
theorem NJ{a b:fV}(h:le a b):max a b=b:=by
 cases a<;>cases b<;>simp only[le,max]at*
 grind
theorem Tz{a b:fV}(h:le b a):max a b=a:=by
 cases a<;>cases b<;>simp only[le,max]at*
 grind
theorem Vr(a b:fV):le a b\/le b a:=by cases a<;>cases b<;>simp only[le]<;>grind
def V:bd fV:={ S with
 add:=max
 star:=tQ
 add_assoc:=λa b c=>by cases a<;>cases b<;>cases c<;>simp only[max]<;>exact ext (by grind)
 add_comm:=λa b=>by cases a<;>cases b<;>simp only[max]<;>exact ext (by grind)
 zero_add:=λa=>NJ (S.zero_le a)
 mul_add:=λa b c=>by
  show mul a (max b c)=max (mul a b) (mul a c)
  grind[Vr,NJ,NL,Tz]
 Ck:=λ{a b c d} i m=>by cases a<;>cases b<;>cases c<;>cases d<;>simp only[S,le,max]at*<;>grind
 yw:=λa=>by
  show max (fin 1 (by grind)) (mul a (tQ a))=tQ a
  cases a with
  |fin p k=>
   simp only[tQ];split
   ·next h=>exact ext (by grind)
   grind[mul,max]
  |inf=>rfl
 se:=λ{a b x} h=>by
  have h:le (max b (mul a x)) x:=h;show le (mul (tQ a) b) x;have g:le b x:=by
   refine S.le_trans (?_:le b (max b (mul a x))) h;rcases Vr b (mul a x)with e|e
   ·grind[NJ]
   ·rw[Tz e];exact S.le_refl b
  have f:le (mul a x) x:=by
   refine S.le_trans (?_:le (mul a x) (max b (mul a x))) h;rcases Vr b (mul a x)with e|e
   ·rw[NJ e];exact S.le_refl _
   ·grind[Tz]
  cases x with
  |inf=>grind[le]
  | fin r o=>
   cases b with
   |inf=>exact g.elim
   | fin q l=>
    have g:q<=r:=g
    cases a with
    | fin p k=>
     have f:p*r<=r:=f;simp only[tQ];split
     ·next i=>
      show 1*q<=r
      grind
     ·next i=>
      have:r=0:=by
       refine Classical.byContradiction λc=>?_;have j:0<r:=by grind
       have n:=Rat.mul_lt_mul_of_pos_right (show(1:Rat)<p by grind) j
       grind
      grind[mul]
    |inf=>
     simp only[mul]at f;by_cases e:r=0
     ·grind[tQ,mul]
     ·rw[if_neg e]at f;exact f.elim }
end fV
end Go.Num
end
section
namespace Go.Num
variable{z:Int}
abbrev de:List UInt8:=[105,110,102]
abbrev ie:List UInt8:=[45,105,110,102]
def aM(b:Int)(a:List UInt8):Bool:=decide (1<=b/\b<=3)&&(a==[105,110,102]||a==[45,105,110,102]&&b==1||aA a&&(b==1||decide (0<=cZ a [48])))
def bH(a:Int):List UInt8:=if a=1 then de else[48]
def pE(a:Int):List UInt8:=if a=1 then[48]else[49]
def dp(a b:List UInt8):Int:=if a=b then 0 else if a=ie\/b=de then -1 else if a=de\/b=ie then 1 else cZ a b
def Gm(c:Int)(a b:List UInt8):Int:=if c=1 then dp a b else dp b a
def eO(c:Int)(a b:List UInt8):Option (List UInt8):=if c≠2 then some (if Gm c b a<0 then b else a)else if a=de\/b=de then some de else qc a b
def dh(c:Int)(a b:List UInt8):Option (List UInt8):=if a=bH c\/b=bH c then some (bH c)else if a=de\/b=de then some de else if a=ie\/b=ie then some ie else if c=1 then qc a b else B8 a b
def lP(b:Int)(a:List UInt8):Option (List UInt8):=if b=1 then(if dp a [48]>=0 then some [48]else some ie)else if b=3 then(if dp a [49]<=0 then some [49]else some de)else if dp a [49]>=0 then some de else match qc [49] (qd a)with
 |some d=>Gp [49] d
 |none=>none
def B3(a:List UInt8):sK:=if a=de then .inf else if a=ie then .low else .fin (bj a)
noncomputable def kX(a:List UInt8):fV:=if a=de then .inf else if h:0<=bj a then .fin (bj a) h else .inf
structure wL{K:Type}(S:bd K)(dec:List UInt8->K)(kind:Int):Prop where
 zero:dec (bH kind)=S.zero
 one:dec (pE kind)=S.one
 inj:∀{a b:List UInt8},aM kind a=true->aM kind b=true->dec a=dec b->a=b
 plus:∀{a b c:List UInt8},aM kind a=true->aM kind b=true->eO kind a b=some c->aM kind c=true/\dec c=S.add (dec a) (dec b)
 times:∀{a b c:List UInt8},aM kind a=true->aM kind b=true->dh kind a b=some c->aM kind c=true/\dec c=S.mul (dec a) (dec b)
 star:∀{a c:List UInt8},aM kind a=true->lP kind a=some c->aM kind c=true/\dec c=S.star (dec a)
theorem fB:aA [49]=true:=by decide
theorem jv:bj [48]=0:=by rfl
theorem kZ:bj [49]=1:=by rfl
theorem ct{a:List UInt8}(h:aA a=true):a≠de/\a≠ie:=by
 constructor<;>intro e<;>rw[e]at h<;>exact absurd h (by decide)
theorem gB{a:List UInt8}(h:aM z a=true):z=1\/z=2\/z=3:=by
 unfold aM at h
 grind
theorem mS{a:List UInt8}:aM 1 a=true↔a=de\/a=ie\/aA a=true:=by simp_all[or_assoc,aM]
theorem RA{a:List UInt8}(h:aA a=true):0<=cZ a [48]↔0<=bj a:=by
 have:=(Am h fu).1
 grind[jv]
theorem il(d:z=2\/z=3){a:List UInt8}:aM z a=true↔a=de\/(aA a=true/\0<=bj a):=by
 have b:decide (1<=z/\z<=3)=true:=by simp;omega
 have c:(z==1)=false:=by rcases d with rfl|rfl<;>rfl
 unfold aM;rw[b,c,Bool.true_and,Bool.and_false,Bool.or_false,Bool.false_or,Bool.or_eq_true,Bool.and_eq_true,beq_iff_eq,decide_eq_true_eq]
 grind[RA]
theorem dg{a:List UInt8}(h:aA a=true):B3 a = .fin (bj a):=by simp_all[ct,B3]
theorem oB:B3 de = .inf:=by rfl
theorem mj:B3 ie = .low:=by rfl
theorem da{a:List UInt8}(h:aA a=true)(b:0<=bj a):kX a = .fin (bj a) b:=by simp_all[ct,kX]
theorem jr:kX de = .inf:=by rfl
theorem qS{a b:List UInt8}(d:aA a=true)(c:aA b=true):(dp a b<0↔bj a<bj b)/\(dp a b=0↔bj a=bj b):=by
 obtain⟨f,g⟩:=Am d c;unfold dp;by_cases e:a=b
 all_goals simp_all[ct]
theorem yT{a b:List UInt8}(d:aA a=true)(c:aA b=true):dp a b>=0↔bj b<=bj a:=by
 have:=(qS d c).1
 grind
theorem Oj{a b:List UInt8}(d:aA a=true)(c:aA b=true):dp a b<=0↔bj a<=bj b:=by
 obtain⟨e,f⟩:=qS d c
 grind
theorem ZB:wL sK.S B3 1 where
 zero:=oB
 one:=by rfl
 inj:=λ{a b} d f e=>by grind[mS,oB,mj,dg,vQ]
 plus:=λ{a b c} d f e=>by
  have e:some (if dp b a<0 then b else a)=some c:=e;obtain rfl:=oI e;refine⟨by grind,?_⟩;rcases mS.1 d with rfl|rfl|d<;>rcases mS.1 f with rfl|rfl|f
  ·rfl
  ·rfl
  ·have:dp b de = -1:=by unfold dp;rw[if_neg (ct f).1,if_pos (.inr rfl)]
   rw[this,if_pos (by omega),oB,dg f];rfl
  ·rfl
  ·rfl
  ·have:dp b ie=1:=by unfold dp;rw[if_neg (ct f).2,if_neg (λc=>c.elim (ct f).2 (by decide)),if_pos (.inr rfl)]
   rw[this,if_neg (by omega),mj,dg f];rfl
  ·have:dp de a=1:=by unfold dp;rw[if_neg (λe=>(ct d).1 e.symm),if_neg (λc=>c.elim (by decide) (ct d).1),if_pos (.inl rfl)]
   rw[this,if_neg (by omega),oB,dg d];rfl
  ·have:dp ie a = -1:=by unfold dp;rw[if_neg (λe=>(ct d).2 e.symm),if_pos (.inl rfl)]
   rw[this,if_pos (by omega),mj,dg d];rfl
  ·have h:=(qS f d).1;rw[dg d,dg f];show _=sK.fin (if bj a<=bj b then bj a else bj b);by_cases c:dp b a<0
   ·rw[if_pos c,dg f,if_neg (Rat.not_le.2 (h.1 c))]
   ·rw[if_neg c,dg d,if_pos (Rat.not_lt.1 λx=>c (h.2 x))]
 times:=λ{a b c} d f e=>by
  unfold dh at e;rw[show bH 1=de from rfl]at e;rcases mS.1 d with rfl|rfl|d
  ·rw[if_pos (.inl rfl)]at e;obtain rfl:=oI e;refine⟨d,?_⟩;rfl
  ·rcases mS.1 f with rfl|rfl|f
   ·rw[if_pos (.inr rfl)]at e;obtain rfl:=oI e;exact⟨f,by rfl⟩
   ·rw[if_neg (by decide),if_neg (by decide),if_pos (.inl rfl)]at e;obtain rfl:=oI e;exact⟨f,by rfl⟩
   ·rw[if_neg (λc=>c.elim (by decide) (ct f).1),if_neg (λc=>c.elim (by decide) (ct f).1),if_pos (.inl rfl)]at e;obtain rfl:=oI e;exact⟨d,by rw[mj,dg f];rfl⟩
  ·rcases mS.1 f with rfl|rfl|f
   ·rw[if_pos (.inr rfl)]at e;obtain rfl:=oI e;exact⟨f,by rw[oB,dg d];rfl⟩
   ·rw[if_neg (λc=>c.elim (ct d).1 (by decide)),if_neg (λc=>c.elim (ct d).1 (by decide)),if_pos (.inr rfl)]at e;obtain rfl:=oI e;exact⟨f,by rw[mj,dg d];rfl⟩
   ·rw[if_neg (λc=>c.elim (ct d).1 (ct f).1),if_neg (λc=>c.elim (ct d).1 (ct f).1),if_neg (λc=>c.elim (ct d).2 (ct f).2),if_pos rfl]at e;obtain⟨i,j⟩:=pC d f e;exact⟨mS.2 (.inr (.inr i)),by rw[dg d,dg f,dg i,j];rfl⟩
 star:=λ{a c} d e=>by
  unfold lP at e;rw[if_pos rfl]at e;rcases mS.1 d with rfl|rfl|d
  ·rw[if_pos (by decide)]at e;obtain rfl:=oI e;exact⟨by decide,by rfl⟩
  ·rw[if_neg (by decide)]at e;obtain rfl:=oI e;exact⟨by decide,by rfl⟩
  ·have h:=yT d fu;rw[jv]at h;rw[dg d];show _/\_=if 0<=bj a then sK.fin 0 else sK.low;by_cases g:dp a [48]>=0
   ·rw[if_pos g]at e;obtain rfl:=oI e;exact⟨by decide,by rw[if_pos (h.1 g),dg fu,jv]⟩
   ·rw[if_neg g]at e;obtain rfl:=oI e;exact⟨by decide,by rw[if_neg λx=>g (h.2 x),mj]⟩
theorem B1(f:z=2\/z=3){a b:List UInt8}(d:aM z a=true)(c:aM z b=true)(e:kX a=kX b):a=b:=by grind[il,jr,da,vQ]
theorem E2(a:z=2\/z=3):aM z de=true:=by grind[il]
theorem wM(g:z=2\/z=3){a b c:List UInt8}(j:aM z a=true)(k:aM z b=true)(e:dh z a b=some c):aM z c=true/\kX c=fV.mul (kX a) (kX b):=by
 have v:bH z=[48]:=by rcases g with rfl|rfl<;>rfl
 have t:¬z=1:=by omega
 have l:aM z [48]=true:=(il g).2 (.inr ⟨fu,by rfl⟩);have r:kX [48] = .fin 0 Rat.le_refl:=by rw[da fu (by rfl)];exact fV.ext jv
 unfold dh at e;rw[v]at e;have w:∀{x:List UInt8},aA x=true->x≠[48]->bj x≠0:=λs u e=>u (vQ s fu (by rw[e,jv]));by_cases q:a=[48]
 ·subst q;rw[if_pos (.inl rfl)]at e;obtain rfl:=oI e;exact⟨l,by rw[r];simp[fV.Ak]⟩
 by_cases o:b=[48]
 ·subst o;rw[if_pos (.inr rfl)]at e;obtain rfl:=oI e;exact⟨l,by rw[fV.Ft,r];simp[fV.Ak]⟩
 rw[if_neg (λx=>x.elim q o)]at e;rcases(il g).1 j with rfl|⟨f,h⟩<;>rcases(il g).1 k with rfl|⟨d,i⟩
 ·rw[if_pos (.inl rfl)]at e;obtain rfl:=oI e;exact⟨j,by rfl⟩
 ·rw[if_pos (.inl rfl)]at e;obtain rfl:=oI e;refine⟨j,?_⟩;rw[jr,da d i];show _=if bj b=0 then _ else _
  grind
 ·rw[if_pos (.inr rfl)]at e;obtain rfl:=oI e;refine⟨k,?_⟩;rw[jr,da f h];show _=if bj a=0 then _ else _
  grind
 ·rw[if_neg (λc=>c.elim (ct f).1 (ct d).1),if_neg (λc=>c.elim (ct f).2 (ct d).2),if_neg t]at e;obtain⟨n,m⟩:=Ih f d e;have p:0<=bj c:=by rw[m];exact Rat.mul_nonneg h i
  refine⟨(il g).2 (.inr ⟨n,p⟩),?_⟩;rw[da f h,da d i,da n p];exact fV.ext m
theorem An:kX [48]=fV.S.zero:=by rfl
theorem B2:kX [49]=fV.S.one:=by rfl
theorem qB(b:z=2\/z=3){a:List UInt8}(h:aA a=true)(c:0<=bj a):aM z a=true:=by grind[il]
theorem qA(a:z=2\/z=3):aM z [49]=true:=qB a fB (by rfl)
theorem ZA:wL fV.S kX 2 where
 zero:=An
 one:=B2
 inj:=B1 (.inl rfl)
 times:=wM (.inl rfl)
 plus:=λ{a b c} k o e=>by
  unfold eO at e;rw[if_neg (by decide)]at e;rcases(il (.inl rfl)).1 k with rfl|⟨f,l⟩
  ·rw[if_pos (.inl rfl)]at e;obtain rfl:=oI e;exact⟨k,by rfl⟩
  rcases(il (.inl rfl)).1 o with rfl|⟨m,q⟩
  ·rw[if_pos (.inr rfl)]at e;obtain rfl:=oI e;exact⟨o,by rw[jr];cases kX a<;>rfl⟩
  rw[if_neg (λc=>c.elim (ct f).1 (ct m).1)]at e;obtain⟨j,i⟩:=pC f m e;have n:0<=bj c:=by rw[i];exact Rat.add_nonneg l q
  refine⟨qB (.inl rfl) j n,?_⟩;rw[da f l,da m q,da j n];exact fV.ext i
 star:=λ{a c} k e=>by
  unfold lP at e;rw[if_neg (by decide),if_neg (by decide)]at e;rcases(il (.inl rfl)).1 k with rfl|⟨f,l⟩
  ·rw[if_pos (by decide)]at e;obtain rfl:=oI e;exact⟨k,by rfl⟩
  have h:=yT f fB;rw[kZ]at h;rw[da f l];show _/\_=if h:bj a<1 then fV.fin (1-bj a)⁻¹ _ else fV.inf;by_cases g:dp a [49]>=0
  ·rw[if_pos g]at e;obtain rfl:=oI e
   simp_all[E2,Rat.not_lt,jr]
  ·rw[if_neg g]at e;have u:bj a<1:=Rat.not_le.1 λx=>g (h.2 x);rw[dif_pos u]
   cases p:qc [49] (qd a)with
   |none=>grind
   | some d=>
    rw[p]at e;dsimp only at e;obtain⟨s,t⟩:=ud f;obtain⟨j,i⟩:=pC fB s p;rw[t,kZ]at i;have r:bj d=1-bj a:=by rw[i,Rat.sub_eq_add_neg]
    have v:val (numOf d)≠0:=λe=>by
     have:=(aY.1 j).wk;rw[e,qW]at this;have:=Rat.num_eq_zero.1 this;rw[r]at this
     grind
    obtain⟨n,w⟩:=H9 fB j v e;rw[kZ,Rat.one_mul,r]at w
    grind[qB,da]
theorem ZC:wL fV.V kX 3 where
 zero:=An
 one:=B2
 inj:=B1 (.inr rfl)
 times:=wM (.inr rfl)
 plus:=λ{a b c} j l e=>by
  have e:some (if dp a b<0 then b else a)=some c:=e;obtain rfl:=oI e;refine⟨by grind,?_⟩;rcases(il (.inr rfl)).1 j with rfl|⟨d,i⟩<;>rcases(il (.inr rfl)).1 l with rfl|⟨f,k⟩
  ·rfl
  ·have:dp de b=1:=by unfold dp;rw[if_neg (λe=>(ct f).1 e.symm),if_neg (λc=>c.elim (by decide) (ct f).1),if_pos (.inl rfl)]
   rw[this,if_neg (by omega),jr];rfl
  ·have:dp a de = -1:=by unfold dp;rw[if_neg (ct d).1,if_pos (.inr rfl)]
   rw[this,if_pos (by omega),jr];cases kX a<;>rfl
  ·have h:=(qS d f).1;rw[da d i,da f k];show _=fV.fin (if bj a<=bj b then bj b else bj a) _;by_cases c:dp a b<0
   ·rw[if_pos c,da f k]
    grind
   ·rw[if_neg c,da d i]
    grind
 star:=λ{a c} j e=>by
  unfold lP at e;rw[if_neg (by decide),if_pos rfl]at e;rcases(il (.inr rfl)).1 j with rfl|⟨d,i⟩
  ·rw[if_neg (by decide)]at e;obtain rfl:=oI e;exact⟨j,by rfl⟩
  have h:=Oj d fB;rw[kZ]at h;rw[da d i];show _/\_=if bj a<=1 then fV.fin 1 _ else fV.inf;by_cases g:dp a [49]<=0
  ·rw[if_pos g]at e;obtain rfl:=oI e;exact⟨qA (.inr rfl),by rw[if_pos (h.1 g),da fB (by rw[kZ];decide)];rfl⟩
  ·rw[if_neg g]at e;obtain rfl:=oI e
   simp_all[E2,jr]
theorem wP{kind:Int}(h:1<=kind/\kind<=3):∃(K:Type)(S:bd K)(a:List UInt8->K),wL S a kind:=by
 obtain rfl|rfl|rfl:kind=1\/kind=2\/kind=3:=by omega
 all_goals grind[ZB,ZA,ZC]
section
structure qb(α:Type) where
 zero:α
 one:α
 xp:α->Bool
 plus:α->α->Option α
 times:α->α->Option α
 star:α->Option α
def bg{β:Type}(f:β->Nat->Option β):Nat->Nat->β->Option β
 |0,_,b=>some b
 |k+1,i,b=>match f b i with
  |some a=>bg f k (i+1) a
  |none=>none
structure jo(α:Type) where
 i:Int
 o:Int
 w:α
 t:Nat
structure H5(α:Type) where
 fin:Option α
 arcs:List (jo α)
structure gf(α:Type) where
 lead:α
 start:Nat
 bE:List (H5 α)
section
variable {α:Type} (O:qb α)
def gA(l:List α)(t:Nat)(a b:α):Option (List α):=match O.times a b with
 |none=>none
 |some p=>match O.plus (l.getD t O.zero) p with
  |none=>none
  |some s=>some (l.set t s)
def bw(n:Nat):List α:=List.replicate n O.zero
def cg:jo α:=⟨0,0,O.zero,0⟩
def dJ:H5 α:=⟨none,[]⟩
def jS(i o:Int)(u:α)(a:List (jo α))(l:List α)(k:Nat):Option (List α):=
 if(a.getD k (cg O)).i≠i\/(a.getD k (cg O)).o≠o then some l else gA O l (a.getD k (cg O)).t u (a.getD k (cg O)).w
def qy(M:gf α)(v:List α)(i o:Int)(l:List α)(q:Nat):Option (List α):=
 if O.xp (v.getD q O.zero)then some l else bg (jS O i o (v.getD q O.zero) (M.bE.getD q dJ).arcs) (M.bE.getD q dJ).arcs.length 0 l
def kQ(M:gf α)(v:List α)(i o:Int):Option (List α):=bg (qy O M v i o) M.bE.length 0 (bw O M.bE.length)
def wR(a b:List α)(l:List α)(i:Nat):Option (List α):=match O.plus (a.getD i O.zero) (b.getD i O.zero)with
 |none=>none
 |some s=>some (l++[s])
def nt(a b:List α):Option (List α):=bg (wR O a b) a.length 0 []
def eV(a:List (jo α))(l:List α)(k:Nat):Option (List α):=
 if(a.getD k (cg O)).i≠0\/(a.getD k (cg O)).o≠0 then some l else match O.plus (l.getD (a.getD k (cg O)).t O.zero) (a.getD k (cg O)).w with
  |none=>none
  |some s=>some (l.set (a.getD k (cg O)).t s)
def gN(M:gf α)(A:List (List α))(q:Nat):Option (List (List α)):=match bg (eV O (M.bE.getD q dJ).arcs) (M.bE.getD q dJ).arcs.length 0 (bw O M.bE.length)with
 |none=>none
 |some r=>some (A++[r])
def oA(M:gf α):Bool:=M.bE.any λs=>s.arcs.any λa=>decide (a.i=0)&&decide (a.o=0)
def bS(B:List (List α))(i j:Nat):α:=(B.getD i []).getD j O.zero
def cp(B:List (List α))(s:α)(k i:Nat)(r:List α)(j:Nat):Option (List α):=
 if O.xp (bS O B i k)||O.xp (bS O B k j)then some (r++[bS O B i j])else match O.times (bS O B i k) s with
  |none=>none
  | some p=>match O.times p (bS O B k j)with
   |none=>none
   |some a=>match O.plus (bS O B i j) a with
    |none=>none
    |some c=>some (r++[c])
def iO(B:List (List α))(s:α)(k:Nat)(C:List (List α))(i:Nat):Option (List (List α)):=match bg (cp O B s k i) B.length 0 []with
 |none=>none
 |some r=>some (C++[r])
def fm(B:List (List α))(k:Nat):Option (List (List α)):=match O.star (bS O B k k)with
 |none=>none
 |some s=>bg (iO O B s k) B.length 0 []
def nJ(B:List (List α))(i:Nat):Option (List (List α)):=match O.plus O.one (bS O B i i)with
 |none=>none
 |some s=>some (B.set i ((B.getD i []).set i s))
def jR(A:List (List α)):Option (List (List α)):=match bg (fm O) A.length 0 A with
 |none=>none
 |some B=>bg (nJ O) A.length 0 B
def dR(M:gf α):Option (Option (List (List α))):=match bg (gN O M) M.bE.length 0 []with
 |none=>none
 | some A=>if oA M then(if 60<M.bE.length then none else match jR O A with
   |none=>none
   |some B=>some (some B))else some none
def fJ(v:List α)(B:List (List α))(q:Nat)(l:List α)(p:Nat):Option (List α):=
 if O.xp (v.getD q O.zero)||O.xp (bS O B q p)then some l else gA O l p (v.getD q O.zero) (bS O B q p)
def fS(v:List α):Option (List (List α))->Option (List α)
 |none=>some v
 |some B=>bg (λl q=>bg (fJ O v B q) v.length 0 l) v.length 0 (bw O v.length)
def jP(M:gf α)(v:List α)(l:List α)(q:Nat):Option (List α):=match (M.bE.getD q dJ).fin with
 |none=>some l
 |some f=>gA O l 0 (v.getD q O.zero) f
def oC(M:gf α)(v:List α):Option α:=match bg (jP O M v) v.length 0 [O.zero]with
 |none=>none
 |some l=>some (l.getD 0 O.zero)
def dI(T:List (List (List α)))(i j:Nat):List α:=(T.getD i []).getD j []
def fo(T:List (List (List α)))(i j:Nat)(v:List α):List (List (List α)):=T.set i ((T.getD i []).set j v)
def bL(x:List Int)(i b:Nat):Int:=if b=1 then x.getD i 0 else 0
def oE(M:gf α)(x y:List Int)(v:List α)(i j:Nat)(T:List (List (List α)))(k:Nat):Option (List (List (List α))):=
 if x.length<i+k%2\/y.length<j+k/2 then some T else match kQ O M v (bL x i (k%2)) (bL y j (k/2))with
  |none=>none
  |some s=>match nt O (dI T (i+k%2) (j+k/2)) s with
   |none=>none
   |some r=>some (fo T (i+k%2) (j+k/2) r)
def mR(M:gf α)(B:Option (List (List α)))(x y:List Int)(i:Nat)(T:List (List (List α)))(j:Nat):Option (List (List (List α))):=match fS O (dI T i j) B with
 |none=>none
 |some v=>bg (oE O M x y v i j) 3 1 (fo T i j v)
def qV(M:gf α)(B:Option (List (List α)))(x y:List Int)(T:List (List (List α)))(i:Nat):Option (List (List (List α))):=bg (mR O M B x y i) (y.length+1) 0 T
def ki(M:gf α)(x y:List Int):List (List (List α)):=fo (List.replicate (x.length+1) (List.replicate (y.length+1) (bw O M.bE.length))) 0 0 ((bw O M.bE.length).set M.start M.lead)
def eB(M:gf α)(x y:List Int):Option α:=match dR O M with
 |none=>none
 |some B=>match bg (qV O M B x y) (x.length+1) 0 (ki O M x y)with
  |none=>none
  |some T=>oC O M (dI T x.length y.length)
end
structure Gh{α β:Type}(O:qb α)(P:qb β)(V:α->Prop)(h:α->β):Prop where
 zero:V O.zero/\h O.zero=P.zero
 one:V O.one/\h O.one=P.one
 xp:∀{a},V a->P.xp (h a)=O.xp a
 plus:∀{a b c},V a->V b->O.plus a b=some c->V c/\P.plus (h a) (h b)=some (h c)
 times:∀{a b c},V a->V b->O.times a b=some c->V c/\P.times (h a) (h b)=some (h c)
 star:∀{a c},V a->O.star a=some c->V c/\P.star (h a)=some (h c)
theorem eA{β j:Type}{H:β->j}{VB:β->Prop}{f:β->Nat->Option β}{g:j->Nat->Option j}(l:∀b i a,VB b->f b i=some a->VB a/\g (H b) i=some (H a)):∀(k i:Nat)(b a:β),VB b->bg f k i b=some a->VB a/\bg g k i (H b)=some (H a)
 |0,i,b,a,d,h=>by
  obtain rfl:=oI h;exact⟨d,rfl⟩
 | k+1,i,b,a,d,h=>by
  unfold bg at h⊢
  cases e:f b i with
  |none=>grind
  |some c=>
   rw[e]at h;obtain⟨m,n⟩:=l b i c d e;rw[n];exact eA l k (i+1) c a m h
def mapA{α β:Type}(h:α->β)(a:jo α):jo β:=⟨a.i,a.o,h a.w,a.t⟩
def nr{α β:Type}(h:α->β)(s:H5 α):H5 β:=⟨s.fin.map h,s.arcs.map (mapA h)⟩
def mapM{α β:Type}(h:α->β)(M:gf α):gf β:=⟨h M.lead,M.start,M.bE.map (nr h)⟩
def bp{α:Type}(V:α->Prop)(l:List α):Prop:=∀a∈l,V a
structure BV{α:Type}(V:α->Prop)(M:gf α):Prop where
 lead:V M.lead
 fin:∀s∈M.bE,∀f,s.fin=some f->V f
 w:∀s∈M.bE,∀a∈s.arcs,V a.w
section
variable {α β:Type} {O:qb α} {P:qb β} {V:α->Prop} {h:α->β}
theorem sX(l:List α)(i:Nat)(d:α):(l.map h).getD i (h d)=h (l.getD i d):=by grind
theorem oD{l:List α}(b:bp V l){d:α}(c:V d)(i:Nat):V (l.getD i d):=by
 rw[gD]
 cases e:l[i]? with
 |none=>grind
 |some a=>exact b a (List.mem_of_getElem? e)
theorem bp.set{l:List α}(b:bp V l){a:α}(d:V a)(i:Nat):bp V (l.set i a):=λx c=>by
 rcases List.mem_or_eq_of_mem_set c with h|h
 ·exact b x h
 grind
theorem bp.snoc{l:List α}(b:bp V l){a:α}(d:V a):bp V (l++[a]):=λx c=>by
 rcases mem_append.1 c with h|h
 ·exact b x h
 grind
theorem bp.rep{a:α}(c:V a)(n:Nat):bp V (List.replicate n a):=λx b=>by grind
variable (H:Gh O P V h)
include H
theorem Gh.getD(l:List α)(i:Nat):(l.map h).getD i P.zero=h (l.getD i O.zero):=by rw[<-H.zero.2];grind
theorem Gh.at_{l:List α}(a:bp V l)(i:Nat):V (l.getD i O.zero):=oD a H.zero.1 i
theorem vK{l c:List α}{a b:α}{t:Nat}(f:bp V l)(n:V a)(i:V b)(e:gA O l t a b=some c):bp V c/\gA P (l.map h) t (h a) (h b)=some (c.map h):=by
 unfold gA at e⊢
 cases d:O.times a b with
 |none=>grind
 | some p=>
  rw[d]at e;obtain⟨k,m⟩:=H.times n i d;rw[m];dsimp only at e⊢;rw[H.getD]
  cases g:O.plus (l.getD t O.zero) p with
  |none=>grind
  |some s=>
   rw[g]at e;obtain⟨j,o⟩:=H.plus (H.at_ f t) k g;obtain rfl:=oI e;rw[o];exact⟨f.set j t,by simp⟩
theorem BX(a:List (jo α))(k:Nat):(a.map (mapA h)).getD k (cg P)=mapA h (a.getD k (cg O)):=by
 have:cg P=mapA h (cg O):=by unfold cg mapA;rw[H.zero.2]
 grind
theorem Ng{b:List (jo α)}(c:∀a∈b,V a.w)(k:Nat):V (b.getD k (cg O)).w:=
 oD (V:=λ(a:jo α)=>V a.w) c (by unfold cg;exact H.zero.1) k
theorem Eb{i o:Int}{u:α}{b:List (jo α)}(g:V u)(j:∀a∈b,V a.w)(l:List α)(k:Nat)(d:List α)(f:bp V l)(e:jS O i o u b l k=some d):bp V d/\jS P i o (h u) (b.map (mapA h)) (l.map h) k=some (d.map h):=by
 unfold jS at e⊢;rw[BX H];show bp V d/\(if(b.getD k (cg O)).i≠i\/(b.getD k (cg O)).o≠o then some (l.map h)else gA P (l.map h) (b.getD k (cg O)).t (h u) (h (b.getD k (cg O)).w))=some (d.map h);split at e
 ·grind
 ·next c=>rw[if_neg c];grind[vK,Ng]
omit H in
theorem yX(M:gf α)(q:Nat):(mapM h M).bE.getD q dJ=nr h (M.bE.getD q dJ):=sX (h:=nr h) M.bE q dJ
omit H in
theorem s7{M:gf α}(q:Nat):M.bE.getD q dJ=dJ\/M.bE.getD q dJ∈M.bE:=by grind
omit H in
theorem RE{M:gf α}(c:BV V M)(q:Nat):∀a∈(M.bE.getD q dJ).arcs,V a.w:=λa b=>by
 rcases s7 (M:=M) q with e|e
 ·rw[e]at b;cases b
 ·exact c.w _ e a b
omit H in
theorem Wh{M:gf α}(b:BV V M)(q:Nat){f:α}(a:(M.bE.getD q dJ).fin=some f):V f:=by
 rcases s7 (M:=M) q with e|e
 ·rw[e]at a;cases a
 ·exact b.fin _ e f a
theorem pF(n:Nat):bp V (bw O n)/\(bw O n).map h=bw P n:=⟨bp.rep H.zero.1 n,by unfold bw;rw[List.map_replicate,H.zero.2]⟩
theorem Ip{M:gf α}(j:BV V M){v b:List α}{i o:Int}(d:bp V v)(e:kQ O M v i o=some b):bp V b/\kQ P (mapM h M) (v.map h) i o=some (b.map h):=by
 unfold kQ at e⊢;have f:=pF H M.bE.length;have a:(mapM h M).bE.length=M.bE.length:=lM _;rw[a,<-f.2];refine eA (VB:=bp V) (H:=List.map h) (λl q k g e=>?_) _ _ _ _ f.1 e;unfold qy at e⊢;rw[H.getD,yX,H.xp (H.at_ d q)];split at e
 ·grind
 ·next c=>
  rw[if_neg c];have a:(nr h (M.bE.getD q dJ)).arcs.length=(M.bE.getD q dJ).arcs.length:=lM _;rw[a];exact eA (VB:=bp V) (H:=List.map h) (Eb H (H.at_ d q) (RE j q)) _ _ _ _ g e
theorem La{a b c:List α}(k:bp V a)(f:bp V b)(e:nt O a b=some c):bp V c/\nt P (a.map h) (b.map h)=some (c.map h):=by
 unfold nt at e⊢;rw[lM];refine eA (VB:=bp V) (H:=List.map h) (λl q m g e=>?_) _ _ _ _ (λx n=>by grind) e;unfold wR at e⊢;rw[H.getD,H.getD]
 cases d:O.plus (a.getD q O.zero) (b.getD q O.zero)with
 |none=>grind
 |some s=>
  rw[d]at e;obtain⟨i,j⟩:=H.plus (H.at_ k q) (H.at_ f q) d;obtain rfl:=oI e;rw[j];exact⟨g.snoc i,by grind⟩
theorem oi(B:List (List α))(i j:Nat):bS P (B.map (List.map h)) i j=h (bS O B i j):=by
 unfold bS;have:(B.map (List.map h)).getD i []=(B.getD i []).map h:=sX (h:=List.map h) B i [];rw[this,H.getD]
theorem mQ{B:List (List α)}(a:bp (bp V) B)(i j:Nat):V (bS O B i j):=H.at_ (oD a (λx b=>by grind) i) j
theorem Gr{M:gf α}(vm:BV V M){r:Option (List (List α))}(e:dR O M=some r):(∀B,r=some B->bp (bp V) B)/\dR P (mapM h M)=some (r.map (List.map (List.map h))):=by
 unfold dR at e⊢;have I:(mapM h M).bE.length=M.bE.length:=lM _;rw[I]
 cases J:bg (gN O M) M.bE.length 0 []with
 |none=>grind
 | some A=>
  rw[J]at e;obtain⟨h1,t⟩:=eA (VB:=bp (bp V)) (H:=List.map (List.map h)) (g:=gN P (mapM h M)) (λA q A' hA e=>by
   unfold gN at e⊢;have R:=pF H M.bE.length;rw[yX,I,<-R.2];have K:(nr h (M.bE.getD q dJ)).arcs.length=(M.bE.getD q dJ).arcs.length:=lM _;rw[K]
   cases y:bg (eV O (M.bE.getD q dJ).arcs) (M.bE.getD q dJ).arcs.length 0 (bw O M.bE.length)with
   |none=>rw[y]at e;cases e
   | some r=>
    rw[y]at e;obtain rfl:=oI e;obtain⟨Y,h4⟩:=eA (VB:=bp V) (H:=List.map h) (g:=eV P (nr h (M.bE.getD q dJ)).arcs) (λl k l' o e=>by
     unfold eV at e⊢;show _/\(if(((M.bE.getD q dJ).arcs.map (mapA h)).getD k (cg P)).i≠0\/(((M.bE.getD q dJ).arcs.map (mapA h)).getD k (cg P)).o≠0 then some (l.map h)else match P.plus ((l.map h).getD (((M.bE.getD q dJ).arcs.map (mapA h)).getD k (cg P)).t P.zero) (((M.bE.getD q dJ).arcs.map (mapA h)).getD k (cg P)).w with
      |none=>none
      |some s=>some ((l.map h).set (((M.bE.getD q dJ).arcs.map (mapA h)).getD k (cg P)).t s))=_
     rw[BX H];have hw:=Ng H (RE vm q) k;generalize (M.bE.getD q dJ).arcs.getD k (cg O)=c at*;show _/\(if c.i≠0\/c.o≠0 then some (l.map h)else match P.plus ((l.map h).getD c.t P.zero) (h c.w)with
      |none=>none
      |some s=>some ((l.map h).set c.t s))=_
     split at e
     ·next g=>rw[if_pos g];obtain rfl:=oI e;exact⟨o,rfl⟩
     ·next g=>
      rw[if_neg g,H.getD]
      cases a:O.plus (l.getD c.t O.zero) c.w with
      |none=>rw[a]at e;cases e
      |some s=>
       rw[a]at e;obtain⟨F,z⟩:=H.plus (H.at_ o c.t) hw a;obtain rfl:=oI e;rw[z];exact⟨o.set F _,by rw[map_set]⟩) _ _ _ _ R.1 y
    rw[h4];exact⟨hA.snoc Y,by rw[map_append];rfl⟩) _ _ _ _ (λx d=>by cases d) J
  have t:bg (gN P (mapM h M)) M.bE.length 0 []=some (A.map (List.map h)):=t;rw[t];dsimp only at e⊢;have ha:oA (mapM h M)=oA M:=by
   unfold oA;show(M.bE.map (nr h)).any _=_;rw[List.any_map];congr 1;funext s;show((s.arcs.map (mapA h)).any _)=_;rw[List.any_map];rfl
  rw[ha];split at e
  ·next c=>
   rw[if_pos c];split at e
   ·cases e
   ·next c2=>
    rw[if_neg c2]
    cases a:jR O A with
    |none=>rw[a]at e;cases e
    | some B=>
     rw[a]at e;obtain rfl:=oI e;have m:bp (bp V) B/\jR P (A.map (List.map h))=some (B.map (List.map h)):=by
      unfold jR at a⊢;rw[lM]
      cases u:bg (fm O) A.length 0 A with
      |none=>rw[u]at a;cases a
      | some C=>
       rw[u]at a;obtain⟨F,z⟩:=eA (VB:=bp (bp V)) (H:=List.map (List.map h)) (g:=fm P) (λB k S b e=>by
        unfold fm at e⊢;rw[oi H,lM]
        cases E:O.star (bS O B k k)with
        |none=>rw[E]at e;cases e
        | some s=>
         rw[E]at e;obtain⟨h7,h8⟩:=H.star (mQ H b k k) E;rw[h8];refine eA (VB:=bp (bp V)) (H:=List.map (List.map h)) (λC i C' W e=>?_) _ _ _ _ (λx d=>by cases d) e;unfold iO at e⊢;rw[lM]
         cases w:bg (cp O B s k i) B.length 0 []with
         |none=>rw[w]at e;cases e
         | some r=>
          rw[w]at e;obtain rfl:=oI e;obtain⟨h9,f⟩:=eA (VB:=bp V) (H:=List.map h) (g:=cp P (B.map (List.map h)) (h s) k i) (λr j r' T e=>by
           unfold cp at e⊢;rw[oi H,oi H,oi H,H.xp (mQ H b i k),H.xp (mQ H b k j)];split at e
           ·next g=>rw[if_pos g];obtain rfl:=oI e;exact⟨T.snoc (mQ H b i j),by rw[map_append];rfl⟩
           ·next g=>
            rw[if_neg g]
            cases D:O.times (bS O B i k) s with
            |none=>rw[D]at e;cases e
            | some p=>
             rw[D]at e;obtain⟨Z,U⟩:=H.times (mQ H b i k) h7 D;rw[U];dsimp only at e⊢
             cases n:O.times p (bS O B k j)with
             |none=>rw[n]at e;cases e
             | some X=>
              rw[n]at e;obtain⟨u3,u4⟩:=H.times Z (mQ H b k j) n;rw[u4];dsimp only at e⊢
              cases v:O.plus (bS O B i j) X with
              |none=>rw[v]at e;cases e
              |some c=>
               rw[v]at e;obtain⟨u5,u6⟩:=H.plus (mQ H b i j) u3 v;rw[u6];obtain rfl:=oI e;exact⟨T.snoc u5,by rw[map_append];rfl⟩) _ _ _ _ (λx d=>by cases d) w
          have f:bg (cp P (B.map (List.map h)) (h s) k i) B.length 0 []=some (r.map h):=f;rw[f];exact⟨W.snoc h9,by rw[map_append];rfl⟩) _ _ _ _ h1 u
       rw[z];dsimp only at a⊢;refine eA (VB:=bp (bp V)) (H:=List.map (List.map h)) (λB i S b e=>?_) _ _ _ _ F a;unfold nJ at e⊢;rw[oi H,<-H.one.2]
       cases G:O.plus O.one (bS O B i i)with
       |none=>rw[G]at e;cases e
       |some s=>
        rw[G]at e;obtain⟨N,Q⟩:=H.plus H.one.1 (mQ H b i i) G;rw[Q];obtain rfl:=oI e;have hg:(B.map (List.map h)).getD i []=(B.getD i []).map h:=sX (h:=List.map h) B i [];have L:bp V (B.getD i []):=oD b (λx d=>by cases d) i;exact⟨bp.set (V:=bp V) b (L.set N i) i,by rw[map_set,hg,map_set]⟩
     rw[m.2];exact⟨λS e=>by obtain rfl:=oI e;exact m.1,rfl⟩
  grind
theorem K5{v d:List α}(b:bp V v){B:Option (List (List α))}(a:∀C,B=some C->bp (bp V) C)(e:fS O v B=some d):bp V d/\fS P (v.map h) (B.map (List.map (List.map h)))=some (d.map h):=by
 cases B with
 |none=>obtain rfl:=oI e;exact⟨b,rfl⟩
 |some B=>
  have a:=a B rfl;have i:=pF H v.length;show _/\bg (λl q=>bg (fJ P (v.map h) (B.map (List.map h)) q) (v.map h).length 0 l) (v.map h).length 0 (bw P (v.map h).length)=_;rw[lM,<-i.2];refine eA (VB:=bp V) (H:=List.map h) (λl q f c e=>?_) _ _ _ _ i.1 e;refine eA (VB:=bp V) (H:=List.map h) (λl p f c e=>?_) _ _ _ _ c e;unfold fJ at e⊢;rw[H.getD,oi H,H.xp (H.at_ b q),H.xp (mQ H a q p)];split at e
  ·grind
  ·next g=>rw[if_neg g];exact vK H c (H.at_ b q) (mQ H a q p) e
theorem Om{M:gf α}(n:BV V M){v:List α}{c:α}(i:bp V v)(e:oC O M v=some c):V c/\oC P (mapM h M) (v.map h)=some (h c):=by
 unfold oC at e⊢;rw[lM]
 cases b:bg (jP O M v) v.length 0 [O.zero]with
 |none=>grind
 | some l=>
  rw[b]at e;obtain rfl:=oI e;obtain⟨m,a⟩:=eA (VB:=bp V) (H:=List.map h) (g:=jP P (mapM h M) (v.map h)) (λl q o j e=>by
   unfold jP at e⊢;rw[yX,H.getD];show _/\(match (M.bE.getD q dJ).fin.map h with|none=>some (l.map h)|some f=>gA P (l.map h) 0 (h (v.getD q O.zero)) f)=_
   cases d:(M.bE.getD q dJ).fin with
   |none=>grind
   |some f=>rw[d]at e;exact vK H j (H.at_ i q) (Wh n q d) e) _ _ _ _ (λx k=>by rw[mem_singleton.1 k];exact H.zero.1) b
  have a:bg (jP P (mapM h M) (v.map h)) v.length 0 [h O.zero]=some (l.map h):=a;rw[H.zero.2]at a;rw[a];dsimp only;rw[H.getD];exact⟨H.at_ m 0,rfl⟩
omit H in
theorem yR(T:List (List (List α)))(i j:Nat):dI (T.map (List.map (List.map h))) i j=(dI T i j).map h:=by grind[dI]
omit H in
theorem vR(T:List (List (List α)))(i j:Nat)(v:List α):fo (T.map (List.map (List.map h))) i j (v.map h)=(fo T i j v).map (List.map (List.map h)):=by grind[map_set,fo]
omit H in
theorem Gk{T:List (List (List α))}(b:bp (bp (bp V)) T)(i j:Nat):bp V (dI T i j):=
 oD (V:=bp V) (oD (V:=bp (bp V)) b (λx a=>by grind) i) (λx a=>by grind) j
omit H in
theorem Cb{T:List (List (List α))}(a:bp (bp (bp V)) T){v:List α}(b:bp V v)(i j:Nat):bp (bp (bp V)) (fo T i j v):=
 bp.set (V:=bp (bp V)) a (bp.set (V:=bp V) (oD (V:=bp (bp V)) a (λx c=>by grind) i) b j) i
theorem Gx{M:gf α}(b:BV V M){x y:List Int}{w:α}(e:eB O M x y=some w):V w/\eB P (mapM h M) x y=some (h w):=by
 unfold eB at e⊢
 cases m:dR O M with
 |none=>grind
 | some B=>
  rw[m]at e;obtain⟨A,C⟩:=Gr H b m;rw[C];dsimp only at e⊢;have f:=pF H M.bE.length;have t:(mapM h M).bE.length=M.bE.length:=lM _;have u:bp (bp (bp V)) (ki O M x y)/\ki P (mapM h M) x y=(ki O M x y).map (List.map (List.map h)):=by
   unfold ki;refine⟨Cb (bp.rep (bp.rep f.1 _) _) (f.1.set b.lead _) 0 0,?_⟩;rw[<-vR,map_set,List.map_replicate,List.map_replicate,f.2,t];rfl
  cases o:bg (qV O M B x y) (x.length+1) 0 (ki O M x y)with
  |none=>grind
  | some T=>
   rw[o]at e;obtain⟨G,I⟩:=eA (VB:=bp (bp (bp V))) (H:=List.map (List.map (List.map h))) (g:=qV P (mapM h M) (B.map (List.map (List.map h))) x y) (λT i n a e=>by
    unfold qV at e⊢;refine eA (VB:=bp (bp (bp V))) (H:=List.map (List.map (List.map h))) (λT j n a e=>?_) _ _ _ _ a e;unfold mR at e⊢;rw[yR]
    cases c:fS O (dI T i j) B with
    |none=>rw[c]at e;cases e
    | some v=>
     rw[c]at e;obtain⟨q,F⟩:=K5 H (Gk a i j) A c;rw[F];dsimp only at e⊢;rw[vR];refine eA (VB:=bp (bp (bp V))) (H:=List.map (List.map (List.map h))) (λT k n a e=>?_) _ _ _ _ (Cb a q i j) e;unfold oE at e⊢;split at e
     ·next g=>rw[if_pos g];obtain rfl:=oI e;exact⟨a,rfl⟩
     ·next g=>
      rw[if_neg g]
      cases d:kQ O M v (bL x i (k%2)) (bL y j (k/2))with
      |none=>rw[d]at e;cases e
      | some s=>
       rw[d]at e;obtain⟨D,z⟩:=Ip H b q d;rw[z];dsimp only at e⊢;rw[yR]
       cases l:nt O (dI T (i+k%2) (j+k/2)) s with
       |none=>rw[l]at e;cases e
       |some r=>
        rw[l]at e;obtain⟨E,p⟩:=La H (Gk a _ _) D l;rw[p];dsimp only at e⊢;obtain rfl:=oI e;exact⟨Cb a E _ _,by rw[vR]⟩) _ _ _ _ u.1 o
   grind[yR,Om,Gk]
end
end
end Go.Num
end
section
namespace Go.Num
variable{n:Nat}
namespace bd
variable {K:Type} {S:bd K}
def dot(S:bd K)(u v:Nat->K)(n:Nat):K:=S.cW (λi=>S.mul (u i) (v i)) n
theorem MO{a:Nat->Nat->K}{c x:Nat->K}(d:∀i,i<n->S.le (S.add (c i) (S.cW (λj=>S.mul (a i j) (x j)) n)) (x i))
  (e:∀y:Nat->K,(∀i,i<n->S.le (S.add (c i) (S.cW (λj=>S.mul (a i j) (y j)) n)) (y i))->∀i,i<n->S.le (x i) (y i)):∀i,i<n->x i=HI S a n c i:=
 λi b=>S.G0 (e _ (λj _=>le_of_eq (DA a n c j).symm) i b) (F0 a d b)
theorem Q2{a b:Nat->Nat->K}{c d:Nat->K}(f:∀i j,i<n->j<n->a i j=b i j)(g:∀i,i<n->c i=d i):∀i,i<n->HI S a n c i=HI S b n d i:=by
 refine MO (λi e=>?_) λy h i e=>F0 a (λi e=>?_) e
 all_goals grind[le_of_eq,DA,aN]
end bd
end Go.Num
end
section
namespace Go.Num
variable{p:List Int}
namespace bd
variable {K:Type} {S:bd K}
def gI{b:Type}(S:bd K)(f:b->K):List b->K
 |[]=>S.zero
 |a::l=>S.add (f a) (gI S f l)
theorem eM{b:Type}{f g:b->K}:∀{l:List b},(∀a∈l,f a=g a)->gI S f l=gI S g l
 |[],_=>rfl
 |a::l,h=>by
  show S.add _ _=S.add _ _;rw[h a (mem_cons_self ..),eM λx c=>h x (List.mem_cons_of_mem _ c)]
theorem DE{b:Type}(f g:b->K):∀l:List b,gI S (λa=>S.add (f a) (g a)) l=S.add (gI S f l) (gI S g l)
 |[]=>(S.zero_add _).symm
 |a::l=>by
  show S.add _ (gI S _ l)=S.add (S.add _ _) (S.add _ _);rw[DE f g l,abc]
theorem yy{b:Type}(c:K)(f:b->K):∀l:List b,gI S (λa=>S.mul c (f a)) l=S.mul c (gI S f l)
 |[]=>(mul_zero c).symm
 |a::l=>by
  show S.add _ (gI S _ l)=S.mul c (S.add _ _);rw[yy c f l,S.mul_add]
theorem tS{a c:Type}(g:c->a)(f:a->K):∀l:List c,gI S f (l.map g)=gI S (λb=>f (g b)) l
 |[]=>rfl
 |b::l=>by
  show S.add _ (gI S f (l.map g))=S.add _ _;rw[tS g f l]
theorem mL{b:Type}:∀l:List b,gI S (λ_=>S.zero) l=S.zero
 |[]=>rfl
 |a::l=>by
  show S.add _ (gI S _ l)=_;rw[mL l,S.zero_add]
end bd
structure BT(K:Type) where
 i:Int
 o:Int
 w:K
 t:Nat
structure dH(K:Type) where
 n:Nat
 fin:Nat->K
 arcs:Nat->List (BT K)
def ju(s:Int)(x:List Int):Option (List Int):=if s=0 then some x else match x with
 |[]=>none
 |c::r=>if c=s then some r else none
namespace dH
open bd
variable {K:Type} (S:bd K) (M:dH K)
def QY(q p:Nat):K:=gI S (λa=>if a.i=0/\a.o=0/\a.t=p then a.w else S.zero) (M.arcs q)
def go(W:List Int->List Int->Nat->K)(x y:List Int)(a:BT K):K:=if a.i=0/\a.o=0 then S.zero else match ju a.i x,ju a.o y with
 |some c,some b=>S.mul a.w (W c b a.t)
 |_,_=>S.zero
def tail(W:List Int->List Int->Nat->K)(x y:List Int)(q:Nat):K:=S.add (if x=[]/\y=[]then M.fin q else S.zero) (gI S (go S W x y) (M.arcs q))
def HQ:Nat->List Int->List Int->Nat->K
 |0,x,y=>HI S (QY S M) M.n (tail S M (λ_ _ _=>S.zero) x y)
 |f+1,x,y=>HI S (QY S M) M.n (tail S M (HQ f) x y)
def val(x y:List Int):Nat->K:=HQ S M (x.length+y.length) x y
variable {S M}
theorem Nz{s:Int}{x:List Int}(h:ju s x=some p):p.length+(if s=0 then 0 else 1)=x.length:=by
 unfold ju at h
 grind
theorem S6{W d:List Int->List Int->Nat->K}{x:List Int}{a:BT K}(h:∀c b,c.length+b.length<x.length+p.length->W c b a.t=d c b a.t):go S W x p a=go S d x p a:=by
 unfold go;split
 ·rfl
 ·next g=>
  cases e:ju a.i x with
  |none=>rfl
  | some c=>
   cases f:ju a.o p with
   |none=>rfl
   |some b=>
    dsimp only;have i:=Nz e;have j:=Nz f
    grind
theorem sh{W W':List Int->List Int->Nat->K}{x:List Int}(h:∀b a,b.length+a.length<x.length+p.length->W b a=W' b a):tail S M W x p=tail S M W' x p:=by grind[eM,S6,tail]
theorem HR:∀{f g:Nat}{x y:List Int},x.length+y.length<=f->x.length+y.length<=g->HQ S M f x y=HQ S M g x y
 |0,0,_,_,_,_=>rfl
 |0,g+1,x,y,h,_=>by grind[sh,HQ]
 |f+1,0,x,y,_,h=>by grind[sh,HQ]
 |f+1,g+1,x,y,c,e=>by
  show HI S _ _ (tail S M _ x y)=HI S _ _ (tail S M _ x y);rw[sh (W:=HQ S M f) (W':=HQ S M g) λd a b=>HR (by omega) (by omega)]
theorem MZ(x y:List Int):val S M x y=HI S (QY S M) M.n (tail S M (val S M) x y):=by
 have h:val S M x y=HQ S M (x.length+y.length+1) x y:=HR (Nat.le_refl _) (Nat.le_succ _);rw[h];show HI S _ _ (tail S M _ x y)=_;rw[sh (W':=val S M) λc a b=>HR (by omega) (Nat.le_refl _)]
end dH
end Go.Num
end
section
namespace Go.Num
variable{n:Nat}
namespace bd
variable {K:Type} {S:bd K}
theorem F7{f:Nat->K}(h:∀i,i<n->f i=S.zero):S.cW f n=S.zero:=by grind[aN,gr]
theorem wD(f:Nat->K){a m n:Nat}(h:a+m<=n):S.cW (λj=>if a<=j/\j<a+m then f j else S.zero) n=S.cW (λp=>f (a+p)) m:=by
 rw[qN a (by omega:a<=n),F7 (λi b=>by rw[if_neg (by omega)]),S.zero_add];rw[qN m (by omega:m<=n-a)];rw[aN (f:=λi=>if a<=a+i/\a+i<a+m then f (a+i)else S.zero) (g:=λp=>f (a+p)) (n:=m) λi b=>by rw[if_pos (by omega)]];simp[F7,if_neg,add_zero]
end bd
end Go.Num
end
section
namespace Go.Num
open bd
section
variable {K:Type} {S:bd K}
def emp(S:bd K)(x y:List Int)(k:K):K:=if x=[]/\y=[]then k else S.zero
end
section
variable {K:Type} {S:bd K}
theorem Gw{C:dH K}{q:Nat}(s:q<C.n)(d:∀a∈C.arcs q,a.i=0/\a.o=0/\a.t<C.n)(x y:List Int):dH.val S C x y q=S.add (emp S x y (C.fin q)) (gI S (λa=>S.mul a.w (dH.val S C x y a.t)) (C.arcs q)):=by
 have f:∀q,dH.val S C x y q=HI S (dH.QY S C) C.n (dH.tail S C (dH.val S C) x y) q:=λq=>by rw[dH.MZ (S:=S) (M:=C) x y]
 rw[f,DA];have j:dH.tail S C (dH.val S C) x y q=emp S x y (C.fin q):=by
  unfold dH.tail emp;rw[eM (g:=λ_=>S.zero) λa h=>?_,mL,add_zero];unfold dH.go;rw[if_pos ⟨(d a h).1,(d a h).2.1⟩]
 rw[j];congr 1;have o:∀l,S.mul (dH.QY S C q l) (HI S (dH.QY S C) C.n (dH.tail S C (dH.val S C) x y) l)=gI S (λa=>if a.t=l then S.mul a.w (dH.val S C x y l)else S.zero) (C.arcs q):=λl=>by
  show S.mul (gI S (λa=>if a.i=0/\a.o=0/\a.t=l then a.w else S.zero) (C.arcs q)) _=_;rw[S.mul_comm,<-yy];refine eM λa h=>?_;obtain⟨k,n,_⟩:=d a h;by_cases c:a.t=l
  ·rw[if_pos ⟨k,n,c⟩,if_pos c,S.mul_comm,<-f]
  ·rw[if_neg λe=>c e.2.2,if_neg c,mul_zero]
 rw[aN λl _=>o l];have r:∀l:List (BT K),(∀a∈l,a.t<C.n)->S.cW (λp=>gI S (λa=>if a.t=p then S.mul a.w (dH.val S C x y p)else S.zero) l) C.n=gI S (λa=>S.mul a.w (dH.val S C x y a.t)) l:=λl=>by
  induction l with
  |nil=>intro _;exact gr _
  | cons a l m=>
   intro h;show S.cW (λp=>S.add (if a.t=p then S.mul a.w (dH.val S C x y p)else S.zero) (gI S _ l)) C.n=S.add _ _;rw[ji,m λb i=>h b (List.mem_cons_of_mem _ i)];congr 1;have t:=h a (mem_cons_self ..);rw[aN (g:=λp=>if a.t<=p/\p<a.t+1 then S.mul a.w (dH.val S C x y p)else S.zero) λp _=>by
    by_cases c:a.t=p
    ·rw[if_pos c,if_pos (by omega)]
    ·rw[if_neg c,if_neg (by omega)]]
   rw[wD (λp=>S.mul a.w (dH.val S C x y p)) (show a.t+1<=C.n by omega)];show S.add S.zero (S.mul a.w (dH.val S C x y (a.t+0)))=_;rw[S.zero_add,Nat.add_zero]
 grind
abbrev ac7(K:Type):=List Int->List Int->K
end
variable{A:Type}
section
variable {K:Type}
noncomputable def aq(S:bd K):qb K:=⟨S.zero,S.one,λa=>@decide (a=S.zero) (Classical.propDecidable _),λa b=>some (S.add a b),λa b=>some (S.mul a b),λa=>some (S.star a)⟩
variable {S:bd K}
def vec(S:bd K)(l:List K)(p:Nat):K:=l.getD p S.zero
theorem ub{a:K}:(aq S).xp a=true↔a=S.zero:=@decide_eq_true_iff (a=S.zero) (Classical.propDecidable _)
theorem uh{l:List K}{t p:Nat}(a:K)(b:t<l.length):vec S (l.set t a) p=if p=t then a else vec S l p:=by
 unfold vec
 grind
theorem qC(n p:Nat):vec S (List.replicate n S.zero) p=S.zero:=by grind[vec]
theorem mu{f:List K->Nat->Option (List K)}{n:Nat}{c:Nat->Nat->K}:∀(m i:Nat)(l:List K),(∀(l:List K)(k:Nat),i<=k->k<i+m->l.length=n->∃a,f l k=some a/\a.length=n/\∀p,p<n->vec S a p=S.add (vec S l p) (c k p))->l.length=n->
  ∃a,bg f m i l=some a/\a.length=n/\∀p,p<n->vec S a p=S.add (vec S l p) (S.cW (λj=>c (i+j) p) m)
 |0,i,l,_,b=>⟨l,rfl,b,λp _=>(add_zero _).symm⟩
 |m+1,i,l,d,b=>by
  obtain⟨q,h,o,g⟩:=d l i (Nat.le_refl _) (by omega) b;obtain⟨u,r,t,s⟩:=mu m (i+1) q (λl k w v=>d l k (by omega) (by omega)) o;refine⟨u,by unfold bg;rw[h];exact r,t,λp e=>?_⟩;rw[s p e,g p e,S.add_assoc];congr 1;rw[qN (S:=S) (f:=λj=>c (i+j) p) 1 (n:=m+1) (by omega)];congr 1
  ·exact(S.zero_add _).symm
  grind
theorem oG{a:Type}{f:List a->Nat->Option (List a)}{c:Nat->a}:∀(m i:Nat)(l:List a),(∀(l:List a)(k:Nat),i<=k->k<i+m->f l k=some (l++[c k]))->bg f m i l=some (l++(List.range m).map λj=>c (i+j))
 |0,i,l,_=>by simp[bg]
 |m+1,i,l,b=>by
  unfold bg;rw[b l i (Nat.le_refl _) (by omega)];show bg f m (i+1) _=_;rw[oG m (i+1) _ λl k d e=>b l k (by omega) (by omega),List.range_succ_eq_map,List.map_cons,List.map_map,append_assoc];congr 2;show c i::_=c (i+0)::_;congr 1;exact List.map_congr_left λj _=>by grind
theorem s9{b:Type}(F:b->K)(d:b):∀l:List b,S.cW (λk=>F (l.getD k d)) l.length=gI S F l
 |[]=>rfl
 |a::l=>by
  rw[List.length_cons,qN (S:=S) 1 (n:=l.length+1) (by omega)];show S.add (S.add S.zero (F a)) _=S.add (F a) _;rw[S.zero_add,<-s9 F d l]
  grind
theorem BW{l:List K}{t:Nat}(a b:K)(d:t<l.length):∃c,gA (aq S) l t a b=some c/\c.length=l.length/\∀p,vec S c p=S.add (vec S l p) (if t=p then S.mul a b else S.zero):=by
 refine⟨l.set t (S.add (vec S l t) (S.mul a b)),rfl,length_set,λp=>?_⟩;rw[uh _ d];by_cases e:t=p
 ·grind
 ·rw[if_neg λh=>e h.symm,if_neg e,add_zero]
def gQ(i o:Int)(p:Nat)(a:jo K):Prop:=a.i=i/\a.o=o/\a.t=p
instance (i o:Int) (p:Nat) (a:jo K):Decidable (gQ i o p a):=inferInstanceAs (Decidable (_/\_/\_))
def bD(M:gf K)(q:Nat):List (jo K):=(M.bE.getD q dJ).arcs
def kP(M:gf K):Prop:=∀s∈M.bE,∀a∈s.arcs,a.t<M.bE.length
theorem kP.at_{M:gf K}(g:kP M){q k:Nat}(a:k<(bD M q).length):((bD M q).getD k (cg (aq S))).t<M.bE.length:=by
 unfold bD at*;rcases s7 (M:=M) q with e|e
 ·rw[e]at a;exact absurd a (Nat.not_lt_zero _)
 ·rw[gD,gE a];exact g _ e _ (getElem_mem a)
theorem RH{M:gf K}(g:kP M)(v:List K)(i o:Int):∃l,kQ (aq S) M v i o=some l/\l.length=M.bE.length/\∀p,p<M.bE.length->vec S l p=S.cW (λq=>gI S (λa=>if gQ i o p a then S.mul (vec S v q) a.w else S.zero) (bD M q)) M.bE.length:=by
 obtain⟨l,y,A,w⟩:=mu (S:=S) (f:=qy (aq S) M v i o) (n:=M.bE.length) (c:=λq p=>gI S (λa=>if gQ i o p a then S.mul (vec S v q) a.w else S.zero) (bD M q)) M.bE.length 0 (bw (aq S) M.bE.length) (λl q _ _ b=>by
  unfold qy;have t:(aq S).xp (v.getD q (aq S).zero)=true↔vec S v q=S.zero:=ub;by_cases r:vec S v q=S.zero
  ·rw[if_pos (t.2 r)];refine⟨l,rfl,b,λp _=>?_⟩;rw[r,eM (g:=λ_=>S.zero) λa _=>by split;exact S.zero_mul _;rfl,mL,add_zero]
  ·rw[if_neg λh=>r (t.1 h)];obtain⟨m,u,C,z⟩:=mu (S:=S) (f:=jS (aq S) i o (vec S v q) (bD M q)) (n:=M.bE.length) (c:=λk p=>if gQ i o p ((bD M q).getD k (cg (aq S)))then S.mul (vec S v q) ((bD M q).getD k (cg (aq S))).w else S.zero) (bD M q).length 0 l (λl k _ F b=>by
    unfold jS;by_cases d:((bD M q).getD k (cg (aq S))).i≠i\/((bD M q).getD k (cg (aq S))).o≠o
    ·rw[if_pos d];exact⟨l,rfl,b,λp _=>by rw[if_neg λh=>d.elim (λx=>x h.1) (λx=>x h.2.1),add_zero]⟩
    ·rw[if_neg d];obtain⟨m,D,B,E⟩:=BW (S:=S) (l:=l) (vec S v q) ((bD M q).getD k (cg (aq S))).w (by rw[b];exact g.at_ (S:=S) (q:=q) (k:=k) (by omega));refine⟨m,D,by rw[B,b],λp _=>?_⟩;rw[E p];congr 1;by_cases e:((bD M q).getD k (cg (aq S))).t=p
     ·rw[if_pos e,if_pos];exact⟨Classical.byContradiction λx=>d (.inl x),Classical.byContradiction λx=>d (.inr x),e⟩
     ·rw[if_neg e,if_neg λh=>e h.2.2]) b
   refine⟨m,u,C,λp s=>?_⟩;rw[z p s];congr 1;have:=s9 (S:=S) (λa=>if gQ i o p a then S.mul (vec S v q) a.w else S.zero) (cg (aq S)) (bD M q);rw[<-this];exact aN λj _=>by rw[Nat.zero_add]) length_replicate
 refine⟨l,y,A,λp s=>?_⟩;rw[w p s];have:vec S (bw (aq S) M.bE.length) p=S.zero:=qC _ _;rw[this,S.zero_add]
 grind
theorem mn(c:Nat->A)(d:A){n i:Nat}(h:i<n):((List.range n).map c).getD i d=c i:=by grind
theorem Wi(a b:List K):∃l,nt (aq S) a b=some l/\l.length=a.length/\∀p,p<a.length->vec S l p=S.add (vec S a p) (vec S b p):=by
 have h:=oG (f:=wR (aq S) a b) (c:=λi=>S.add (vec S a i) (vec S b i)) a.length 0 [] (λl k _ _=>rfl);refine⟨_,h,by simp,λp d=>?_⟩
 simp_all[vec]
def eH(S:bd K)(M:gf K):dH K:=⟨M.bE.length,λq=>(M.bE.getD q dJ).fin.getD S.zero,λq=>(bD M q).map λa=>⟨a.i,a.o,a.w,a.t⟩⟩
def yW(S:bd K)(M:gf K)(q p:Nat):K:=gI S (λa=>if gQ 0 0 p a then a.w else S.zero) (bD M q)
theorem Io(M:gf K)(q p:Nat):dH.QY S (eH S M) q p=yW S M q p:=by
 show gI S _ ((bD M q).map _)=_;rw[tS];rfl
theorem Gj(B:List (List K))(i j:Nat):bS (aq S) B i j=vec S (B.getD i []) j:=rfl
theorem We{M:gf K}(g:kP M):∃A,bg (gN (aq S) M) M.bE.length 0 []=some A/\A.length=M.bE.length/\∀q p,q<M.bE.length->p<M.bE.length->bS (aq S) A q p=yW S M q p:=by
 have e:∀q,∃r,bg (eV (aq S) (bD M q)) (bD M q).length 0 (bw (aq S) M.bE.length)=some r/\∀p,p<M.bE.length->vec S r p=yW S M q p:=λq=>by
  obtain⟨o,m,y,t⟩:=mu (S:=S) (f:=eV (aq S) (bD M q)) (n:=M.bE.length) (c:=λk p=>if gQ 0 0 p ((bD M q).getD k (cg (aq S)))then((bD M q).getD k (cg (aq S))).w else S.zero) (bD M q).length 0 (bw (aq S) M.bE.length) (λl k _ w i=>by
   unfold eV;by_cases d:((bD M q).getD k (cg (aq S))).i≠0\/((bD M q).getD k (cg (aq S))).o≠0
   ·rw[if_pos d];exact⟨l,rfl,i,λp _=>by rw[if_neg λh=>d.elim (λx=>x h.1) (λx=>x h.2.1),add_zero]⟩
   ·rw[if_neg d];have v:((bD M q).getD k (cg (aq S))).t<l.length:=by rw[i];exact g.at_ (S:=S) (q:=q) (k:=k) (by omega)
    refine⟨_,rfl,by rw[length_set,i],λp _=>?_⟩;have:=uh (S:=S) (p:=p) (S.add (vec S l ((bD M q).getD k (cg (aq S))).t) ((bD M q).getD k (cg (aq S))).w) v;refine this.trans ?_;by_cases b:p=((bD M q).getD k (cg (aq S))).t
    ·rw[if_pos b,if_pos,b];exact⟨Classical.byContradiction λx=>d (.inl x),Classical.byContradiction λx=>d (.inr x),b.symm⟩
    ·rw[if_neg b,if_neg λh=>b h.2.2.symm,add_zero]) length_replicate
  refine⟨o,m,λp b=>?_⟩;rw[t p b];have u:vec S (bw (aq S) M.bE.length) p=S.zero:=qC _ _;rw[u,S.zero_add];have:=s9 (S:=S) (λa=>if gQ 0 0 p a then a.w else S.zero) (cg (aq S)) (bD M q);unfold yW;rw[<-this];exact aN λj _=>by rw[Nat.zero_add]
 have h:=oG (f:=gN (aq S) M) (c:=λq=>(e q).choose) M.bE.length 0 [] (λl k _ _=>by
  unfold gN;have:=(e k).choose_spec.1;unfold bD at this;rw[this];rfl)
 refine⟨_,h,by simp,λq p s b=>?_⟩;rw[Gj,List.nil_append,mn _ _ s,Nat.zero_add]
 grind
theorem Gq(B:List (List K))(k:Nat)(a:Nat->Nat->K)(m:k<B.length)(g:∀i j,i<B.length->j<B.length->bS (aq S) B i j=elim S a k i j):∃C,fm (aq S) B k=some C/\C.length=B.length/\∀i j,i<B.length->j<B.length->bS (aq S) C i j=elim S a (k+1) i j:=by
 have n:∀i j,i<B.length->j<B.length->∀r,cp (aq S) B (S.star (bS (aq S) B k k)) k i r j=some (r++[elim S a (k+1) i j]):=λi j b d r=>by
  unfold cp;have e:elim S a (k+1) i j=S.add (bS (aq S) B i j) (S.mul (S.mul (bS (aq S) B i k) (S.star (bS (aq S) B k k))) (bS (aq S) B k j)):=by
   rw[g i j b d,g i k b m,g k k m m,g k j m d];rfl
  by_cases c:((aq S).xp (bS (aq S) B i k)||(aq S).xp (bS (aq S) B k j))=true
  ·rw[if_pos c,e];congr 3;rw[Bool.or_eq_true,ub,ub]at c;rcases c with c|c
   ·rw[c,S.zero_mul,S.zero_mul,add_zero]
   grind[mul_zero,add_zero]
  ·rw[if_neg c,e];rfl
 have o:∀i,i<B.length->bg (cp (aq S) B (S.star (bS (aq S) B k k)) k i) B.length 0 []=some ((List.range B.length).map λj=>elim S a (k+1) i j):=λi b=>by
  have:=oG (f:=cp (aq S) B (S.star (bS (aq S) B k k)) k i) (c:=λj=>elim S a (k+1) i j) B.length 0 [] (λl j _ d=>n i j b (by omega) l)
  grind
 have h:=oG (f:=iO (aq S) B (S.star (bS (aq S) B k k)) k) (c:=λi=>(List.range B.length).map λj=>elim S a (k+1) i j) B.length 0 [] (λl i _ b=>by grind[iO]);refine⟨_,h,by simp,λi j b d=>?_⟩;rw[Gj,List.nil_append,mn _ _ b,Nat.zero_add];exact mn _ _ d
theorem Ie(a:Nat->Nat->K):∀(m k:Nat)(B:List (List K)),k+m=B.length->(∀i j,i<B.length->j<B.length->bS (aq S) B i j=elim S a k i j)->∃C,bg (fm (aq S)) m k B=some C/\C.length=B.length/\∀i j,i<B.length->j<B.length->bS (aq S) C i j=elim S a (k+m) i j
 |0,k,B,_,b=>⟨B,rfl,rfl,b⟩
 |m+1,k,B,d,b=>by
  obtain⟨C,e,f,c⟩:=Gq B k a (by omega) b;obtain⟨D,g,o,l⟩:=Ie a m (k+1) C (by omega) (λi j h n=>c i j (by omega) (by omega))
  grind[bg]
theorem H7:∀(m k:Nat)(B:List (List K)),k+m=B.length->(∀i,i<B.length->(B.getD i []).length=B.length)->∃C,bg (nJ (aq S)) m k B=some C/\∀i j,i<B.length->j<B.length->bS (aq S) C i j=if i=j/\k<=i then S.add S.one (bS (aq S) B i j)else bS (aq S) B i j
 |0,k,B,f,b=>⟨B,rfl,λi j a d=>by grind⟩
 | m+1,k,B,f,b=>by
  have n:k<B.length:=by omega
  obtain⟨C,g,l⟩:=H7 m (k+1) (B.set k ((B.getD k []).set k (S.add S.one (bS (aq S) B k k)))) (by rw[length_set];omega) (λi a=>by
   rw[length_set]at a;rw[gD,List.getElem?_set,length_set];by_cases e:k=i
   ·subst e;rw[if_pos rfl,if_pos a,getD_some,length_set];exact b k a
   ·rw[if_neg e,<-gD];exact b i a)
  refine⟨C,g,λi j a d=>?_⟩;rw[l i j (by rw[length_set];exact a) (by rw[length_set];exact d)];have e:bS (aq S) (B.set k ((B.getD k []).set k (S.add S.one (bS (aq S) B k k)))) i j=if i=k/\j=k then S.add S.one (bS (aq S) B k k)else bS (aq S) B i j:=by
   rw[Gj,gD,List.getElem?_set];by_cases e:k=i
   ·subst e;rw[if_pos rfl,if_pos a,getD_some,uh _ (by rw[b k a];exact a)];by_cases c:j=k
    ·rw[if_pos c,if_pos ⟨rfl,c⟩]
    ·rw[if_neg c,if_neg λh=>c h.2];rfl
   ·rw[if_neg e,<-gD,if_neg λh=>e h.1.symm];rfl
  grind
theorem Cd:∀{m k:Nat}{B C:List (List K)},bg (fm (aq S)) m k B=some C->(∀i,i<B.length->(B.getD i []).length=B.length)->∀i,i<C.length->(C.getD i []).length=C.length
 |0,k,B,C,h,y=>by obtain rfl:=oI h;omega
 | m+1,k,B,C,h,y=>by
  unfold bg at h
  cases e:fm (aq S) B k with
  |none=>grind
  | some D=>
   rw[e]at h;refine Cd h ?_;have t:∀i r j,∃c,cp (aq S) B (S.star (bS (aq S) B k k)) k i r j=some (r++[c]):=λi r j=>by
    unfold cp;split
    ·exact⟨_,rfl⟩
    ·exact⟨_,rfl⟩
   have w:∀i n d (r:List K),∃b,bg (cp (aq S) B (S.star (bS (aq S) B k k)) k i) n d r=some b/\b.length=r.length+n:=λi n=>by
    induction n with
    |zero=>exact λd r=>⟨r,rfl,rfl⟩
    |succ n s=>
     intro d r;obtain⟨c,t⟩:=t i r d;obtain⟨b,g,l⟩:=s (d+1) (r++[c]);exact⟨b,by unfold bg;rw[t];exact g,by rw[l];simp;omega⟩
   have o:∀n f (E:List (List K)),(∀x∈E,x.length=B.length)->∃a,bg (iO (aq S) B (S.star (bS (aq S) B k k)) k) n f E=some a/\a.length=E.length+n/\∀x∈a,x.length=B.length:=λn=>by
    induction n with
    |zero=>exact λf E p=>⟨E,rfl,rfl,p⟩
    | succ n s=>
     intro f E p;obtain⟨b,g,l⟩:=w f B.length 0 [];obtain⟨a,u,v,z⟩:=s (f+1) (E++[b]) (λx q=>by
      rcases mem_append.1 q with h|h
      ·exact p x h
      ·rw[mem_singleton.1 h,l];simp)
     exact⟨a,by unfold bg iO;rw[g];exact u,by rw[v];simp;omega,z⟩
   obtain⟨a,g,l,u⟩:=o B.length 0 [] (λx q=>by cases q);have v:fm (aq S) B k=some a:=g
   grind
theorem RF{A:List (List K)}(a:∀i,i<A.length->(A.getD i []).length=A.length):∃B,jR (aq S) A=some B/\∀i j,i<A.length->j<A.length->bS (aq S) B i j=if i=j then S.add S.one (elim S (bS (aq S) A) A.length i j)else elim S (bS (aq S) A) A.length i j:=by
 obtain⟨C,b,e,d⟩:=Ie (S:=S) (bS (aq S) A) A.length 0 A (Nat.zero_add _) (λi j _ _=>rfl);have c:=Cd b a;obtain⟨B,g,f⟩:=H7 (S:=S) A.length 0 C (by omega) c
 simp_all[jR]
end
variable{p:List Int}
section
variable {K:Type} {S:bd K}
theorem RC{v:List K}{B:List (List K)}:∃l,fS (aq S) v (some B)=some l/\l.length=v.length/\∀p,p<v.length->vec S l p=S.cW (λq=>S.mul (vec S v q) (bS (aq S) B q p)) v.length:=by
 obtain⟨l,m,r,i⟩:=mu (S:=S) (f:=λl q=>bg (fJ (aq S) v B q) v.length 0 l) (n:=v.length) (c:=λq p=>S.mul (vec S v q) (bS (aq S) B q p)) v.length 0 (bw (aq S) v.length) (λl q _ _ a=>by
  obtain⟨b,h,w,o⟩:=mu (S:=S) (f:=fJ (aq S) v B q) (n:=v.length) (c:=λk p=>if k=p then S.mul (vec S v q) (bS (aq S) B q k)else S.zero) v.length 0 l (λl k _ z a=>by
   unfold fJ;by_cases c:((aq S).xp (v.getD q (aq S).zero)||(aq S).xp (bS (aq S) B q k))=true
   ·rw[if_pos c];refine⟨l,rfl,a,λp _=>?_⟩;have u:S.mul (vec S v q) (bS (aq S) B q k)=S.zero:=by
     rw[Bool.or_eq_true,ub,ub]at c;rcases c with c|c
     ·have c:vec S v q=S.zero:=c;rw[c,S.zero_mul]
     ·have c:bS (aq S) B q k=S.zero:=c;rw[c,mul_zero]
    rw[u];split<;>rw[add_zero]
   ·rw[if_neg c];obtain⟨b,x,s,y⟩:=BW (S:=S) (l:=l) (t:=k) (vec S v q) (bS (aq S) B q k) (by omega);exact⟨b,x,by rw[s,a],λp _=>y p⟩) a
  refine⟨b,h,w,λp d=>?_⟩;rw[o p d];congr 1;rw[aN (g:=λj=>if p<=j/\j<p+1 then S.mul (vec S v q) (bS (aq S) B q j)else S.zero) λj _=>by
   rw[Nat.zero_add];by_cases e:j=p
   ·rw[if_pos e,if_pos (by omega)]
   ·rw[if_neg e,if_neg (by omega)]]
  rw[wD (λj=>S.mul (vec S v q) (bS (aq S) B q j)) (by omega:p+1<=v.length)];exact S.zero_add _) length_replicate
 refine⟨l,m,r,λp d=>?_⟩;rw[i p d];have:vec S (bw (aq S) v.length) p=S.zero:=qC _ _;rw[this,S.zero_add]
 grind
theorem Wd(M:gf K)(v:List K)(i:v.length=M.bE.length):oC (aq S) M v=some (dot S (vec S v) (eH S M).fin v.length):=by
 obtain⟨l,b,j,d⟩:=mu (S:=S) (f:=jP (aq S) M v) (n:=1) (c:=λq p=>S.mul (vec S v q) ((eH S M).fin q)) v.length 0 [S.zero] (λl q _ _ e=>by
  unfold jP;show ∃a,(match (M.bE.getD q dJ).fin with|none=>some l|some f=>gA (aq S) l 0 (v.getD q (aq S).zero) f)=some a/\a.length=1/\∀p,p<1->vec S a p=S.add (vec S l p) (S.mul (vec S v q) ((M.bE.getD q dJ).fin.getD S.zero))
  cases (M.bE.getD q dJ).fin with
  |none=>exact⟨l,rfl,e,λp _=>by show _=S.add _ (S.mul _ S.zero);rw[mul_zero,add_zero]⟩
  |some f=>
   obtain⟨a,g,k,h⟩:=BW (S:=S) (l:=l) (t:=0) (vec S v q) f (by omega);refine⟨a,g,by omega,λp m=>?_⟩;rw[h p,if_pos (by omega)];rfl) rfl
 unfold oC;have b:bg (jP (aq S) M v) v.length 0 [(aq S).zero]=some l:=b;rw[b];show some (vec S l 0)=_;rw[d 0 (by omega)];show some (S.add S.zero _)=_;rw[S.zero_add]
 simp_all[dot]
noncomputable def Gi(S:bd K)(M:gf K)(x y:List Int)(i j q:Nat):K:=dH.val S (eH S M) (x.drop i) (y.drop j) q
def iY(S:bd K)(M:gf K)(x y:List Int)(i j q:Nat):K:=dH.tail S (eH S M) (dH.val S (eH S M)) (x.drop i) (y.drop j) q
theorem K7{M:gf K}(g:kP M){r:Option (List (List K))}(f:dR (aq S) M=some r):∀v:List K,v.length=M.bE.length->∃l,fS (aq S) v r=some l/\l.length=M.bE.length/\∀x y i j,dot S (vec S v) (Gi S M x y i j) M.bE.length=dot S (vec S l) (iY S M x y i j) M.bE.length:=by
 obtain⟨A,P,Q,R⟩:=We (S:=S) g;unfold dR at f;rw[P]at f;dsimp only at f;have O:∀x y i j,Gi S M x y i j=HI S (dH.QY S (eH S M)) M.bE.length (iY S M x y i j):=λx y i j=>dH.MZ (S:=S) (M:=eH S M) (x.drop i) (y.drop j);split at f
 ·split at f
  ·grind
  ·have T:∀i,i<A.length->(A.getD i []).length=A.length:=by
    have L:∀(m k:Nat)(E t:List (List K)),(∀x∈E,x.length=M.bE.length)->bg (gN (aq S) M) m k E=some t->∀x∈t,x.length=M.bE.length:=λm=>by
     induction m with
     |zero=>intro k E t G e;obtain rfl:=oI e;exact G
     | succ m I=>
      intro k E t G e;unfold bg at e
      cases o:gN (aq S) M E k with
      |none=>rw[o]at e;cases e
      | some F=>
       rw[o]at e;refine I (k+1) F t ?_ e;unfold gN at o
       cases C:bg (eV (aq S) (M.bE.getD k dJ).arcs) (M.bE.getD k dJ).arcs.length 0 (bw (aq S) M.bE.length)with
       |none=>rw[C]at o;cases o
       | some r=>
        rw[C]at o;obtain rfl:=oI o;have f:∀(m D:Nat)(l u:List K),bg (eV (aq S) (M.bE.getD k dJ).arcs) m D l=some u->u.length=l.length:=λm=>by
         induction m with
         |zero=>intro D l u e;obtain rfl:=oI e;rfl
         | succ m I=>
          intro D l u e;unfold bg at e
          cases s:eV (aq S) (M.bE.getD k dJ).arcs l D with
          |none=>rw[s]at e;cases e
          |some l2=>
           rw[s]at e;rw[I _ _ _ e];unfold eV at s;split at s
           ·obtain rfl:=oI s;rfl
           ·have s:some (l.set _ _)=some l2:=s;obtain rfl:=oI s;exact length_set
        intro x H;rcases mem_append.1 H with h|h
        ·exact G x h
        ·rw[mem_singleton.1 h,f _ _ _ _ C];exact length_replicate
    intro i z;rw[gD,gE z,getD_some,Q];exact L _ _ _ _ (λx H=>by cases H) P _ (getElem_mem z)
   obtain⟨B,W,h5⟩:=RF (S:=S) T;rw[W]at f;obtain rfl:=oI f;intro v N;obtain⟨l,o,C,s⟩:=RC (S:=S) (v:=v) (B:=B);refine⟨l,o,by omega,λx y i j=>?_⟩;rw[O];have U:∀q,q<M.bE.length->HI S (dH.QY S (eH S M)) M.bE.length (iY S M x y i j) q=S.cW (λp=>S.mul (bS (aq S) B q p) (iY S M x y i j p)) M.bE.length:=λq w=>by
    have Z:=Q2 (S:=S) (a:=dH.QY S (eH S M)) (b:=bS (aq S) A) (n:=M.bE.length) (c:=iY S M x y i j) (d:=iY S M x y i j) (λi j z Y=>by rw[R i j z Y,Io]) (λ_ _=>rfl) q w;rw[Z];have X:∀p,p<M.bE.length->S.mul (bS (aq S) B q p) (iY S M x y i j p)=S.add (if q<=p/\p<q+1 then iY S M x y i j p else S.zero) (S.mul (elim S (bS (aq S) A) M.bE.length q p) (iY S M x y i j p)):=λp hp=>by
     rw[h5 q p (by omega) (by omega),Q];by_cases e:q=p
     ·rw[if_pos e,if_pos (by omega),add_mul,S.one_mul]
     ·rw[if_neg e,if_neg (by omega),S.zero_add]
    rw[aN X,ji,wD (iY S M x y i j) (by omega:q+1<=M.bE.length)];show S.add (iY S M x y i j q) _=S.add (S.add S.zero (iY S M x y i j (q+0))) _;rw[S.zero_add];rfl
   unfold dot;rw[aN λq w=>by rw[U q w]];rw[aN (g:=λq=>S.cW (λp=>S.mul (S.mul (vec S v q) (bS (aq S) B q p)) (iY S M x y i j p)) M.bE.length) λq _=>by
    rw[<-yz];exact aN λp _=>(S.mul_assoc _ _ _).symm]
   rw[yC]
   grind[aN,uL]
 ·next J=>
  obtain rfl:=oI f;intro v N;refine⟨v,rfl,N,λx y i j=>?_⟩;unfold dot;refine aN λq w=>?_;congr 1;rw[O,DA];rw[aN (g:=λ_=>S.zero) λl _=>by
   rw[Io];have:yW S M q l=S.zero:=by
    unfold yW;rw[eM (g:=λ_=>S.zero) λa V=>?_,mL];rw[if_neg];rintro⟨c1,c2,_⟩;refine J ?_;unfold oA;refine List.any_eq_true.2 ⟨M.bE.getD q dJ,?_,List.any_eq_true.2 ⟨a,V,by grind⟩⟩;rcases s7 (M:=M) q with e|e
    ·grind
    ·exact e
   rw[this,S.zero_mul]]
  rw[gr,add_zero]
theorem B5{x:List Int}(c:∀s∈x,s≠0)(i:Nat)(s:Int)(b:Nat)(d:b<=1)(g:i+b<=x.length)(a:s=bL x i b):ju s (x.drop i)=some (x.drop (i+b)):=by
 unfold bL at a;by_cases e:b=1
 ·subst e;rw[if_pos rfl]at a;have f:x.drop i=x.getD i 0::x.drop (i+1):=by
   rw[gD,gE (by omega)];exact drop_eq_getElem_cons (by omega)
  have h:s≠0:=by
   rw[a,gD,gE (by omega)];exact c _ (getElem_mem _)
  simp_all[ju]
 ·rw[if_neg e]at a;obtain rfl:b=0:=by omega
  simp_all[ju]
theorem tZ{x:List Int}(f:∀s∈x,s≠0){i:Nat}(g:i<=x.length){s:Int}(h:ju s (x.drop i)=some p):∃b,b<=1/\i+b<=x.length/\s=bL x i b/\p=x.drop (i+b)/\(b=0↔s=0):=by
 unfold ju at h;split at h
 ·next e=>
  obtain rfl:=oI h;exact⟨0,by omega,by omega,by simp_all[bL],rfl,⟨λ_=>e,λ_=>rfl⟩⟩
 ·next e=>
  by_cases a:i<x.length
  ·have d:x.drop i=x.getD i 0::x.drop (i+1):=by
    rw[gD,gE a];exact drop_eq_getElem_cons a
   rw[d]at h;dsimp only at h;split at h
   ·next c=>
    obtain rfl:=oI h;exact⟨1,by omega,by omega,by unfold bL;rw[if_pos rfl];exact c.symm,rfl,⟨λh=>by omega,λh=>absurd h e⟩⟩
   ·cases h
  grind
theorem aba{b c:Nat}{P:Prop}(a:b<=1)(f:c<=1)(d:b=0↔P)(e:c=0↔P):b=c:=by grind
noncomputable def ke(S:bd K)(M:gf K)(x y:List Int)(i j:Nat)(a:jo K)(k:Nat):K:=
 if x.length<i+k%2\/y.length<j+k/2 then S.zero else if a.i=bL x i (k%2)/\a.o=bL y j (k/2)then S.mul a.w (Gi S M x y (i+k%2) (j+k/2) a.t)else S.zero
theorem go_eq{M:gf K}{x:List Int}(m:∀s∈x,s≠0)(t:∀s∈p,s≠0){i j:Nat}(r:i<=x.length)(u:j<=p.length)(a:jo K):dH.go S (dH.val S (eH S M)) (x.drop i) (p.drop j) ⟨a.i,a.o,a.w,a.t⟩=S.cW (λk=>ke S M x p i j a (1+k)) 3:=by
 have F:∀{x:List Int}{i b:Nat},(∀s∈x,s≠0)->b<=1->i+b<=x.length->(bL x i b=0↔b=0):=λ{x i b} m L r=>by
  unfold bL
  grind
 have J:∀k,k=1\/k=2\/k=3->ke S M x p i j a k≠S.zero->i+k%2<=x.length/\j+k/2<=p.length/\a.i=bL x i (k%2)/\a.o=bL p j (k/2):=λk _ h=>by simp_all[ke]
 show(if a.i=0/\a.o=0 then S.zero else match ju a.i (x.drop i),ju a.o (p.drop j)with|some l,some g=>S.mul a.w (dH.val S (eH S M) l g a.t)|_,_=>S.zero)=S.add (S.add (S.add S.zero (ke S M x p i j a 1)) (ke S M x p i j a 2)) (ke S M x p i j a 3);rw[S.zero_add];have d:∀k,k=1\/k=2\/k=3->¬((k%2=0↔a.i=0)/\(k/2=0↔a.o=0))->ke S M x p i j a k=S.zero:=λk C N=>Classical.byContradiction λc=>by grind
 have e:∀k,k=1\/k=2\/k=3->(k%2=0↔a.i=0)->(k/2=0↔a.o=0)->ke S M x p i j a k=(match ju a.i (x.drop i),ju a.o (p.drop j)with|some l,some g=>S.mul a.w (dH.val S (eH S M) l g a.t)|_,_=>S.zero):=λk C O P=>by
  unfold ke;split
  ·next c=>
   cases n:ju a.i (x.drop i)with
   |none=>rfl
   | some l=>
    cases o:ju a.o (p.drop j)with
    |none=>rfl
    |some g=>
     obtain⟨b,G,w,H,E,y⟩:=tZ m r n;obtain⟨B,D,z,v,A,I⟩:=tZ t u o;omega
  ·next c=>
   split
   ·next f=>
    rw[B5 m i _ _ (by omega) (by omega) f.1,B5 t j _ _ (by omega) (by omega) f.2];rfl
   ·next f=>
    cases n:ju a.i (x.drop i)with
    |none=>rfl
    | some l=>
     cases o:ju a.o (p.drop j)with
     |none=>rfl
     |some g=>
      obtain⟨b,G,w,H,E,y⟩:=tZ m r n;obtain⟨B,D,z,v,A,I⟩:=tZ t u o
      grind
 by_cases q:a.i=0
 ·by_cases f:a.o=0
  ·rw[if_pos ⟨q,f⟩,d 1 (by omega) (by omega),d 2 (by omega) (by omega),d 3 (by omega) (by omega),S.zero_add,S.zero_add]
  ·rw[if_neg λh=>f h.2,d 1 (by omega) (by omega),e 2 (by omega) (by omega) (by omega),d 3 (by omega) (by omega),S.zero_add,add_zero]
 ·by_cases f:a.o=0
  ·rw[if_neg λh=>q h.1,e 1 (by omega) (by omega) (by omega),d 2 (by omega) (by omega),d 3 (by omega) (by omega),add_zero,add_zero]
  ·rw[if_neg λh=>q h.1,d 1 (by omega) (by omega),d 2 (by omega) (by omega),e 3 (by omega) (by omega) (by omega),S.zero_add,S.zero_add]
end
variable{i:Nat}{m:Nat}{n:Nat}{j:Nat}
section
variable {K:Type} {S:bd K}
structure oz(M:gf K)(x y:List Int)(T:List (List (List K))):Prop where
 len:T.length=x.length+1
 row:∀i,i<=x.length->(T.getD i []).length=y.length+1
 cell:∀i j,i<=x.length->j<=y.length->(dI T i j).length=M.bE.length
theorem vN{l:List A}(a:i<l.length)(v d:A)(j:Nat):(l.set i v).getD j d=if j=i then v else l.getD j d:=by grind
section
variable {M:gf K} {x y:List Int} {T:List (List (List K))}
theorem oz.zi(s:oz M x y T){i j:Nat}(d:i<=x.length)(f:j<=y.length)(v:List K)(a b:Nat):dI (fo T i j v) a b=if a=i/\b=j then v else dI T a b:=by
 unfold dI fo;rw[vN (by rw[s.len];omega)];by_cases e:a=i
 ·subst e;rw[if_pos rfl,vN (by rw[s.row a d];omega)];by_cases c:b=j
  ·rw[if_pos c,if_pos ⟨rfl,c⟩]
  ·rw[if_neg c,if_neg λh=>c h.2]
 grind
theorem oz.set(s:oz M x y T){i j:Nat}(d:i<=x.length)(f:j<=y.length){v:List K}(g:v.length=M.bE.length):oz M x y (fo T i j v):=by
 refine⟨by unfold fo;rw[length_set];exact s.len,λa c=>?_,λa b c e=>?_⟩
 ·unfold fo;rw[vN (by rw[s.len];omega)];split
  ·rw[length_set];exact s.row i d
  ·exact s.row a c
 ·rw[s.zi d f];split
  ·omega
  ·exact s.cell a b c e
noncomputable def yQ(S:bd K)(M:gf K)(x y:List Int)(T:List (List (List K)))(a b:Nat):K:=dot S (vec S (dI T a b)) (Gi S M x y a b) M.bE.length
noncomputable def iK(S:bd K)(M:gf K)(x y:List Int)(T:List (List (List K)))(i j:Nat):K:=S.cW (λa=>S.cW (λb=>if i<a\/(a=i/\j<=b)then yQ S M x y T a b else S.zero) (y.length+1)) (x.length+1)
theorem qY{p q:Nat}(i:p<m)(f:q<n)(c:K):S.cW (λa=>S.cW (λb=>if a=p/\b=q then c else S.zero) n) m=c:=by
 have d:∀a,S.cW (λb=>if a=p/\b=q then c else S.zero) n=if p<=a/\a<p+1 then c else S.zero:=λa=>by
  by_cases e:a=p
  ·rw[if_pos (by omega),aN (g:=λb=>if q<=b/\b<q+1 then c else S.zero) λb _=>by grind];rw[wD (λ_=>c) (by omega:q+1<=n)];exact S.zero_add c
  ·rw[if_neg (by omega),aN (g:=λ_=>S.zero) λb _=>if_neg λh=>e h.1,gr]
 rw[aN λa _=>d a,wD (λ_=>c) (by omega:p+1<=m)];exact S.zero_add c
theorem Ce(f g:Nat->Nat->K)(m n:Nat):S.cW (λa=>S.cW (λb=>S.add (f a b) (g a b)) n) m=S.add (S.cW (λa=>S.cW (f a) n) m) (S.cW (λa=>S.cW (g a) n) m):=by simp[ji]
theorem Ij(c:i<=x.length)(d:j<=y.length):iK S M x y T i j=S.add (yQ S M x y T i j) (iK S M x y T i (j+1)):=by
 unfold iK;rw[<-qY (S:=S) (p:=i) (q:=j) (m:=x.length+1) (n:=y.length+1) (by omega) (by omega) (yQ S M x y T i j),<-Ce];refine aN λa _=>aN λb _=>?_;by_cases e:a=i/\b=j
 ·simp_all[if_neg,add_zero]
 ·rw[if_neg e,S.zero_add]
  grind
theorem Oq{d:List (List (List K))}{p q:Nat}(r:p<=x.length)(l:q<=y.length)(o:i<p\/(p=i/\j<=q)){c:K}(h:∀a b,a<=x.length->b<=y.length->(i<a\/(a=i/\j<=b))->yQ S M x y d a b=S.add (yQ S M x y T a b) (if a=p/\b=q then c else S.zero)):iK S M x y d i j=S.add (iK S M x y T i j) c:=by
 unfold iK;have e:=qY (S:=S) (p:=p) (q:=q) (m:=x.length+1) (n:=y.length+1) (by omega) (by omega) c
 conv=>rhs;rw[<-e]
 rw[<-Ce];refine aN λa k=>aN λb f=>?_;by_cases g:i<a\/(a=i/\j<=b)
 ·grind
 ·rw[if_neg g,if_neg g,if_neg (by omega),add_zero]
theorem Ii{c:List (List (List K))}(h:∀a b,a<=x.length->b<=y.length->(i<a\/(a=i/\j<=b))->yQ S M x y c a b=yQ S M x y T a b):iK S M x y c i j=iK S M x y T i j:=by
 unfold iK;refine aN λa e=>aN λb d=>?_
 grind
theorem K4(i:Nat):iK S M x y T i (y.length+1)=iK S M x y T (i+1) 0:=by
 unfold iK;refine aN λa d=>aN λb c=>?_
 grind
theorem Oo:iK S M x y T (x.length+1) j=S.zero:=by
 unfold iK;rw[aN (g:=λ_=>S.zero) λa c=>?_,gr];rw[aN (g:=λ_=>S.zero) λb _=>if_neg (by omega),gr]
theorem Ol(u v w:Nat->K)(n:Nat):dot S (λp=>S.add (u p) (v p)) w n=S.add (dot S u w n) (dot S v w n):=by grind[ji,aN,add_mul,dot]
theorem Ic{u v w:Nat->K}(h:∀p,p<n->u p=v p):dot S u w n=dot S v w n:=aN λi a=>by grind
noncomputable def jq(S:bd K)(M:gf K)(x y:List Int)(v:List K)(i j k:Nat):K:=S.cW (λq=>S.mul (vec S v q) (gI S (λa=>ke S M x y i j a k) (bD M q))) M.bE.length
theorem K8(g:kP M)(v:List K){i j k:Nat}(r:¬(x.length<i+k%2\/y.length<j+k/2)){s:List K}(n:∀p,p<M.bE.length->vec S s p=S.cW (λq=>gI S (λa=>if gQ (bL x i (k%2)) (bL y j (k/2)) p a then S.mul (vec S v q) a.w else S.zero) (bD M q)) M.bE.length):
  dot S (vec S s) (Gi S M x y (i+k%2) (j+k/2)) M.bE.length=jq S M x y v i j k:=by
 unfold jq dot;rw[aN (g:=λp=>S.cW (λq=>gI S (λa=>if gQ (bL x i (k%2)) (bL y j (k/2)) p a then S.mul (vec S v q) (S.mul a.w (Gi S M x y (i+k%2) (j+k/2) a.t))else S.zero) (bD M q)) M.bE.length) λp t=>by
  rw[n p t,<-uL];refine aN λq _=>?_;rw[S.mul_comm,<-yy];refine eM λa _=>?_;by_cases c:gQ (bL x i (k%2)) (bL y j (k/2)) p a
  ·rw[if_pos c,if_pos c,c.2.2,S.mul_comm,S.mul_assoc]
  ·rw[if_neg c,if_neg c,mul_zero]]
 rw[yC];refine aN λq u=>?_;rw[<-yy];have e:∀l:List (jo K),(∀a∈l,a.t<M.bE.length)->S.cW (λp=>gI S (λa=>if gQ (bL x i (k%2)) (bL y j (k/2)) p a then S.mul (vec S v q) (S.mul a.w (Gi S M x y (i+k%2) (j+k/2) a.t))else S.zero) l) M.bE.length=gI S (λa=>S.mul (vec S v q) (ke S M x y i j a k)) l:=λl=>by
  induction l with
  |nil=>intro _;exact gr _
  | cons a l o=>
   intro f;have d:=f a (mem_cons_self ..);show S.cW (λp=>S.add (if gQ (bL x i (k%2)) (bL y j (k/2)) p a then _ else S.zero) (gI S _ l)) _=S.add _ _;rw[ji,o λb m=>f b (List.mem_cons_of_mem _ m)];congr 1;unfold ke;dsimp only;rw[if_neg r];by_cases c:a.i=bL x i (k%2)/\a.o=bL y j (k/2)
   ·rw[if_pos c,aN (g:=λp=>if a.t<=p/\p<a.t+1 then S.mul (vec S v q) (S.mul a.w (Gi S M x y (i+k%2) (j+k/2) a.t))else S.zero) λp _=>by
     by_cases e:a.t=p
     ·rw[if_pos ⟨c.1,c.2,e⟩,if_pos (by omega)]
     ·rw[if_neg λh=>e h.2.2,if_neg (by omega)]]
    rw[wD (λ_=>S.mul (vec S v q) (S.mul a.w (Gi S M x y (i+k%2) (j+k/2) a.t))) (by omega:a.t+1<=M.bE.length)];exact S.zero_add _
   ·rw[if_neg c,aN (g:=λ_=>S.zero) λp _=>if_neg λh=>c ⟨h.1,h.2.1⟩,gr,mul_zero]
 refine e _ λa d=>?_;unfold bD at d;rcases s7 (M:=M) q with e|e
 ·rw[e]at d;cases d
 ·exact g _ e a d
theorem B9(g:kP M)(s:oz M x y T){v:List K}(t:v.length=M.bE.length){i j:Nat}(A:i<=x.length)(C:j<=y.length){k:Nat}(B:k=1\/k=2\/k=3):
  ∃h,oE (aq S) M x y v i j T k=some h/\oz M x y h/\dI h i j=dI T i j/\iK S M x y h i (j+1)=S.add (iK S M x y T i (j+1)) (jq S M x y v i j k):=by
 unfold oE;by_cases c:x.length<i+k%2\/y.length<j+k/2
 ·simp_all[gr,mL,mul_zero,add_zero,jq,ke]
 ·rw[if_neg c];obtain⟨l,n,u,m⟩:=RH (S:=S) g v (bL x i (k%2)) (bL y j (k/2));rw[n];dsimp only;have f:i+k%2<=x.length:=by omega
  have d:j+k/2<=y.length:=by omega
  obtain⟨r,o,z,D⟩:=Wi (S:=S) (dI T (i+k%2) (j+k/2)) l;rw[o];dsimp only;have p:=s.cell _ _ f d;refine⟨_,rfl,s.set f d (by omega),?_,?_⟩
  ·rw[s.zi f d,if_neg (by omega)]
  ·refine Oq f d (by omega) λa b w q _=>?_;unfold yQ;rw[s.zi f d];by_cases e:a=i+k%2/\b=j+k/2
   ·rw[if_pos e,if_pos e,e.1,e.2,<-K8 g v c m,<-Ol]
    grind[Ic]
   ·rw[if_neg e,if_neg e,add_zero]
theorem Wg(g:kP M)(A:∀s∈x,s≠0)(N:∀s∈y,s≠0){B:Option (List (List K))}(t:dR (aq S) M=some B)(s:oz M x y T){i j:Nat}(d:i<=x.length)(e:j<=y.length):
  ∃l,mR (aq S) M B x y i T j=some l/\oz M x y l/\iK S M x y T i j=S.add (if i=x.length/\j=y.length then dot S (vec S (dI l i j)) (eH S M).fin M.bE.length else S.zero) (iK S M x y l i (j+1)):=by
 obtain⟨v,U,m,u⟩:=K7 g t (dI T i j) (s.cell i j d e);have F:=s.set d e m;obtain⟨Q,Y,r,J,G⟩:=B9 (S:=S) g F m d e (k:=1) (.inl rfl);obtain⟨V,W,w,o,D⟩:=B9 (S:=S) g r m d e (k:=2) (.inr (.inl rfl));obtain⟨n,P,C,p,L⟩:=B9 (S:=S) g w m d e (k:=3) (.inr (.inr rfl));refine⟨n,?_,C,?_⟩
 ·simp_all[mR,bg]
 ·rw[Ij d e];have H:iK S M x y (fo T i j v) i (j+1)=iK S M x y T i (j+1):=Ii λa b _ _ h=>by
   unfold yQ;rw[s.zi d e,if_neg (by omega)]
  have z:dI n i j=v:=by rw[p,o,J,s.zi d e,if_pos ⟨rfl,rfl⟩]
  rw[L,D,G,H,z];have I:yQ S M x y T i j=S.add (if i=x.length/\j=y.length then dot S (vec S v) (eH S M).fin M.bE.length else S.zero) (S.add (S.add (jq S M x y v i j 1) (jq S M x y v i j 2)) (jq S M x y v i j 3)):=by
   unfold yQ;rw[u x y i j];have E:∀q,iY S M x y i j q=S.add (if i=x.length/\j=y.length then(eH S M).fin q else S.zero) (S.add (S.add (gI S (λa=>ke S M x y i j a 1) (bD M q)) (gI S (λa=>ke S M x y i j a 2) (bD M q))) (gI S (λa=>ke S M x y i j a 3) (bD M q))):=λq=>by
    show S.add (if x.drop i=[]/\y.drop j=[]then(eH S M).fin q else S.zero) (gI S (dH.go S (dH.val S (eH S M)) (x.drop i) (y.drop j)) ((bD M q).map λa=>⟨a.i,a.o,a.w,a.t⟩))=_;rw[tS,eM λa _=>go_eq A N d e a];congr 1
    ·by_cases c:i=x.length/\j=y.length
     ·grind
     ·rw[if_neg c,if_neg]
      grind[List.drop_eq_nil_iff]
    ·show gI S (λa=>S.add (S.add (S.add S.zero (ke S M x y i j a 1)) (ke S M x y i j a 2)) (ke S M x y i j a 3)) _=_;rw[eM (g:=λa=>S.add (S.add (ke S M x y i j a 1) (ke S M x y i j a 2)) (ke S M x y i j a 3)) λa _=>by rw[S.zero_add],DE,DE]
   unfold dot jq;rw[aN λq _=>by rw[E q,S.mul_add,S.mul_add,S.mul_add],ji,ji,ji];congr 1;by_cases c:i=x.length/\j=y.length
   ·grind
   ·rw[if_neg c,aN (g:=λ_=>S.zero) λq _=>by rw[if_neg c,mul_zero],gr]
  rw[I];generalize iK S M x y T i (j+1)=R;generalize jq S M x y v i j 1=X;generalize jq S M x y v i j 2=Z;generalize jq S M x y v i j 3=O;generalize (if i=x.length/\j=y.length then dot S (vec S v) (eH S M).fin M.bE.length else S.zero)=f;rw[S.add_assoc f];congr 1;rw[S.add_comm,<-S.add_assoc,<-S.add_assoc]
theorem Ni(g:kP M)(d:∀s∈x,s≠0)(f:∀s∈y,s≠0){B:Option (List (List K))}(b:dR (aq S) M=some B){i:Nat}(e:i<=x.length):∀(m j:Nat)(T:List (List (List K))),j+m=y.length+1->oz M x y T->
  ∃a,bg (mR (aq S) M B x y i) m j T=some a/\oz M x y a/\(0<m->iK S M x y T i j=S.add (if i=x.length then dot S (vec S (dI a x.length y.length)) (eH S M).fin M.bE.length else S.zero) (iK S M x y a (i+1) 0))
 |0,j,T,k,s=>⟨T,rfl,s,λh=>absurd h (lt_irrefl 0)⟩
 | m+1,j,T,k,s=>by
  obtain⟨l,t,p,n⟩:=Wg g d f b s e (show j<=y.length by omega);obtain⟨o,q,r,u⟩:=Ni g d f b e m (j+1) l (by omega) p;refine⟨o,by grind[bg],r,λ_=>?_⟩;rw[n];by_cases c:m=0
  ·subst c;obtain rfl:=oI q
   simp_all[K4]
  ·rw[if_neg (by omega),S.zero_add]
   grind
theorem Ik(g:kP M)(d:∀s∈x,s≠0)(e:∀s∈y,s≠0){B:Option (List (List K))}(b:dR (aq S) M=some B):∀(m i:Nat)(T:List (List (List K))),i+m=x.length+1->oz M x y T->
  ∃a,bg (qV (aq S) M B x y) m i T=some a/\oz M x y a/\(0<m->iK S M x y T i 0=dot S (vec S (dI a x.length y.length)) (eH S M).fin M.bE.length)
 |0,i,T,f,s=>⟨T,rfl,s,λh=>absurd h (lt_irrefl 0)⟩
 | m+1,i,T,f,s=>by
  obtain⟨j,q,n,k⟩:=Ni g d e b (show i<=x.length by omega) (y.length+1) 0 T (by omega) s;obtain⟨l,o,p,r⟩:=Ik g d e b m (i+1) j (by omega) n;refine⟨l,by grind[bg,qV],p,λ_=>?_⟩;rw[k (by omega)];by_cases c:m=0
  ·subst c;obtain rfl:=oI o
   simp_all[Oo,add_zero]
  ·rw[if_neg (by omega),S.zero_add]
   grind
end
theorem Lc{M:gf K}{x y:List Int}(g:kP M)(C:M.start<M.bE.length)(t:∀s∈x,s≠0)(A:∀s∈y,s≠0){w:K}(h:eB (aq S) M x y=some w):w=S.mul M.lead (dH.val S (eH S M) x y M.start):=by
 unfold eB at h
 cases k:dR (aq S) M with
 |none=>grind
 | some B=>
  rw[k]at h;dsimp only at h;have m:(bw (aq S) M.bE.length).length=M.bE.length:=length_replicate;have f:oz M x y (List.replicate (x.length+1) (List.replicate (y.length+1) (bw (aq S) M.bE.length))):=by
   have e:∀i,i<=x.length->(List.replicate (x.length+1) (List.replicate (y.length+1) (bw (aq S) M.bE.length))).getD i []=List.replicate (y.length+1) (bw (aq S) M.bE.length):=λi d=>by
    rw[gD,List.getElem?_replicate,if_pos (by omega)];rfl
   refine⟨length_replicate,λi d=>by rw[e i d];exact length_replicate,λi j d D=>?_⟩;unfold dI;rw[e i d,gD,List.getElem?_replicate,if_pos (by omega)];exact m
  have z:oz M x y (ki (aq S) M x y):=f.set (Nat.zero_le _) (Nat.zero_le _) (by rw[length_set];exact m);obtain⟨T,u,l,r⟩:=Ik g t A k (x.length+1) 0 (ki (aq S) M x y) (by omega) z;rw[u]at h;dsimp only at h;rw[Wd M _ (l.cell _ _ (Nat.le_refl _) (Nat.le_refl _)),l.cell _ _ (Nat.le_refl _) (Nat.le_refl _),<-r (by omega)]at h;obtain rfl:=oI h;have o:∀a b,a<=x.length->b<=y.length->yQ S M x y (ki (aq S) M x y) a b=if a=0/\b=0 then S.mul M.lead (dH.val S (eH S M) x y M.start)else S.zero:=λa b v n=>by
   unfold yQ ki;rw[f.zi (Nat.zero_le _) (Nat.zero_le _)];by_cases c:a=0/\b=0
   ·rw[if_pos c,if_pos c,c.1,c.2];unfold dot;rw[aN (g:=λq=>if M.start<=q/\q<M.start+1 then S.mul M.lead (dH.val S (eH S M) x y q)else S.zero) λq _=>by
     have:=uh (S:=S) (p:=q) M.lead (show M.start<(bw (aq S) M.bE.length).length by omega);rw[this];by_cases e:q=M.start
     ·rw[if_pos e,if_pos (by omega)];rfl
     ·rw[if_neg e,if_neg (by omega)];have:vec S (bw (aq S) M.bE.length) q=S.zero:=qC _ _;rw[this,S.zero_mul]]
    rw[wD (λq=>S.mul M.lead (dH.val S (eH S M) x y q)) (by omega:M.start+1<=M.bE.length)];exact S.zero_add _
   ·rw[if_neg c,if_neg c];unfold dot;rw[aN (g:=λ_=>S.zero) λq _=>?_,gr];unfold dI;have e:(List.replicate (x.length+1) (List.replicate (y.length+1) (bw (aq S) M.bE.length))).getD a []=List.replicate (y.length+1) (bw (aq S) M.bE.length):=by
     rw[gD,List.getElem?_replicate,if_pos (by omega)];rfl
    rw[e,gD,List.getElem?_replicate,if_pos (by omega)];have:vec S (bw (aq S) M.bE.length) q=S.zero:=qC _ _;show S.mul (vec S (bw (aq S) M.bE.length) q) _=_;rw[this,S.zero_mul]
  unfold iK;rw[aN (g:=λa=>S.cW (λb=>if a=0/\b=0 then S.mul M.lead (dH.val S (eH S M) x y M.start)else S.zero) (y.length+1)) λa v=>aN λb n=>by rw[if_pos (by omega),o a b (by omega) (by omega)]];simp[qY]
end
end Go.Num
end
section
namespace Go.Proofs.YtaaichlgdgjgjaaGreatDoor
open Go Go.Ab Go.RowKit
theorem Xa:(((Tryz.prog.funcs.toList.drop 0).take 40).all λf=>fH f)=true:=by kernel_rfl
theorem Xb:(((Tryz.prog.funcs.toList.drop 40).take 40).all λf=>fH f)=true:=by kernel_rfl
theorem Xc:(((Tryz.prog.funcs.toList.drop 80).take 40).all λf=>fH f)=true:=by kernel_rfl
theorem Xd:(((Tryz.prog.funcs.toList.drop 120).take 40).all λf=>fH f)=true:=by kernel_rfl
theorem Xe:(((Tryz.prog.funcs.toList.drop 160).take 40).all λf=>fH f)=true:=by kernel_rfl
theorem Xf:(((Tryz.prog.funcs.toList.drop 200).take 40).all λf=>fH f)=true:=by kernel_rfl
theorem Xg:(((Tryz.prog.funcs.toList.drop 240).take 40).all λf=>fH f)=true:=by kernel_rfl
theorem Pc:Tryz.prog.funcs.toList.length=259:=by kernel_rfl
theorem SN(i:Nat)(c:Func)(h:Tryz.prog.funcs.toList[i]?=some c):fH c=true:=by
 have b:∀a,((Tryz.prog.funcs.toList.drop a).take 40).all (λf=>fH f)=true->a<=i->i<a+40->fH c=true:=λa g d e=>by
  refine all_eq_true.1 g c (List.mem_of_getElem? (i:=i-a) ?_);rw[List.getElem?_take,if_pos (by omega),List.getElem?_drop,show a+(i-a)=i by omega];exact h
 have j:i<259:=by
  have:=(List.getElem?_eq_some_iff.1 h).1;rw[Pc]at this;exact this
 by_cases m:i<40
 ·exact b 0 Xa (by omega) (by omega)
 by_cases d:i<80
 ·exact b 40 Xb (by omega) (by omega)
 by_cases e:i<120
 ·exact b 80 Xc (by omega) (by omega)
 by_cases k:i<160
 ·exact b 120 Xd (by omega) (by omega)
 by_cases l:i<200
 ·exact b 160 Xe (by omega) (by omega)
 by_cases n:i<240
 ·exact b 200 Xf (by omega) (by omega)
 exact b 240 Xg (by omega) (by omega)
theorem PB:(Tryz.prog.funcs.toList.all λf=> !(f.name == "runtime.NumGoroutine"))=true:=by kernel_rfl
theorem Ob:Gz Tryz.prog:={
 names:=λ_ a h=>by
  have b:a∈Tryz.prog.funcs.toList:=by
   rw[<-Array.getElem?_toList]at h;exact List.mem_of_getElem? h
  have:=all_eq_true.1 PB a b;simpa using this
 Zf:=λf a h=>SN f a (by rw[Array.getElem?_toList];exact h) }
def MJ:Code->Code
 |.seq a _=>a
 |c=>c
def HE:Code->Code
 |.seq _ b=>b
 |c=>c
noncomputable def E9:Code:=(Tryz.f166.body).getD .skip
theorem GV(a:Array Value)(w:World)(h:a.size=2):CallsDIn Fence.wide 0 Tryz.prog 183 a .returning w λe c b=>(∃v,e = .returned v)/\c = .returning/\Below w.heap.size w b/\w.drawn<=b.drawn:=
 Xl (n:=2) Tryz.func183 rfl rfl (by kernel_rfl) a w h
end Go.Proofs.YtaaichlgdgjgjaaGreatDoor
end
section
namespace Go.Proofs.YtaaichlgdgjgjaaGreatDoor
open Go Go.Ab Go.Num
def V0:Nat->Bool:=λg=>Nat.beq g 1
noncomputable def prS:FuncId->Option uQ:=λf=>Sz (Nat.beq f 81) (some Ds) (Sz (Nat.beq f 222) (some qL) (Sz (Nat.beq f 226) (some po) (Sz (Nat.beq f 166) (some (wC Tryz.prog V0 Tryz.f166 (MJ E9) (HE (HE E9)) 5)) none)))
noncomputable def SS:Sx:=⟨Tryz.prog,V0,prS⟩
theorem ad3:aE Tryz.prog 22=some 1:=by kernel_rfl
abbrev lI(h:ae)(p:Addr)(K:Int->Prop):Prop:=xI .i64 (aj SS.P 3 h (.pointer (some p))) K
abbrev lS(h:ae)(p:Addr)(K:List UInt8->Prop):Prop:=xS (aj SS.P 9 h (.pointer (some p))) K
abbrev lB(h:ae)(p:Addr)(K:Bool->Prop):Prop:=xB (aj SS.P 4 h (.pointer (some p))) K
abbrev lL(t:TypeId)(h:ae)(p:Addr)(K:Option Addr->Nat->Nat->Prop):Prop:=xL (aj SS.P t h (.pointer (some p))) K
abbrev lA(t:TypeId)(h:ae)(v:Value)(K:List Value->Prop):Prop:=xA (aj SS.P t h v) K
abbrev fP(t:TypeId)(v:Value)(i:Nat)(K:Addr->Prop):Prop:=xP (aW SS.P t v i) K
abbrev iP(t:TypeId)(v i:Value)(K:Addr->Prop):Prop:=xP (ax SS.P t v i) K
variable{s:List UInt8}{t:List UInt8}{z:Int}{v:Value}{w:Value}{h:ae}{Q:VH}{b:Bool}
noncomputable def O4:FD:=cA Tryz.f191 []
theorem Lq(l m:LB)(h:ae)(Q:VH)(e:FW SS 204 [(strOf l),(strOf m)] h λc d=>yB c λb=>au (!b) (Q (.tuple ⟨[(strOf l),(.bool false)]⟩) d) (xS (bP SS.P 9 (strOf l) (some (.int .i64 ((m:LB).length:Int))) none none d) λa=>Q (.tuple ⟨[(strOf a),(.bool true)]⟩) d)):FW SS 191 [(strOf l),(strOf m)] h Q:=cN O4 Tryz.func191 (ai e)
noncomputable def SJ:FD:=cA Tryz.f177 []
theorem O5(l m:LB)(h:ae)(Q:VH)(e:FW SS 191 [(strOf l),(strOf m)] h λc d=>∃b:LB,∃a:Bool,c=(.tuple ⟨[(strOf b),(.bool a)]⟩)/\Q (.tuple ⟨[(strOf b),(.bool a)]⟩) d):FW SS 177 [(strOf l),(strOf m)] h Q:=cN SJ Tryz.func177 (ai e)
noncomputable def LI:FD:=cA Tryz.f214 []
theorem Jn(l:LB)(c:Int)(h:ae)(Q:VH)(d:FW SS 226 [(strOf l),(.int .u8 c)] h λb c=>yI .i64 b λa=>Q (.int .i64 a) c):FW SS 214 [(strOf l),(.int .u8 c)] h Q:=cN LI Tryz.func214 (ai d)
noncomputable def Td:FD:=cA Tryz.f205 []
theorem Pg(l:LB)(h:ae)(Q:VH)(e:au (([47]:LB)==l) (Q (.int .i64 0) h) (xI .u8 (bM SS.P 9 (strOf [47]) (.int .i64 0)) λd=>FW SS 214 [(strOf l),(.int .u8 d)] h λb c=>yI .i64 b λa=>Q (.int .i64 a) c)):FW SS 205 [(strOf l),(strOf [47])] h Q:=cN Td Tryz.func205 (ai e)
noncomputable def aab:FD:=cA Tryz.f192 []
theorem WW(l:LB)(h:ae)(Q:VH)(f:FW SS 205 [(strOf l),(strOf [47])] h λd e=>yI .i64 d λc=>au (decide ((c:Int)>=0)) (xS (bP SS.P 9 (strOf l) none (some (.int .i64 c)) none (room e 12)) λb=>xS (bP SS.P 9 (strOf l) (some (.int .i64 (wrap .i64 (c+1)))) none none (room e 12)) λa=>Q (.tuple ⟨[(strOf b),(strOf a),(.bool true)]⟩) (room e 12)) (Q (.tuple ⟨[(strOf l),(strOf []),(.bool false)]⟩) e)):FW SS 192 [(strOf l),(strOf [47])] h Q:=cN aab Tryz.func192 (ai f)
noncomputable def ab1:FD:=cA Tryz.f178 []
theorem aac(l:LB)(h:ae)(Q:VH)(f:FW SS 192 [(strOf l),(strOf [47])] h λd e=>∃c:LB,∃b:LB,∃a:Bool,d=(.tuple ⟨[(strOf c),(strOf b),(.bool a)]⟩)/\Q (.tuple ⟨[(strOf c),(strOf b),(.bool a)]⟩) e):FW SS 178 [(strOf l),(strOf [47])] h Q:=cN ab1 Tryz.func178 (ai f)
noncomputable def jI:FD:=cA Tryz.f116 [([1,0,1,0,0],[0,1,5])]
abbrev jh(l:LB)(c:Int)(i:Nat):LV:=[(strOf l),(.int .u8 c),(iA i)]
theorem Hq(l:LB)(c:Int)(h:ae)(Q:VH)(a:LL SS jI [1,0,1,0,0] (jh l c 0) h (KK SS jI [1,0,1,0] [] (EE SS jI Q))):FW SS 116 [(strOf l),(.int .u8 c)] h Q:=cN jI Tryz.func116 (ai a)
theorem tE(l:LB)(c:Int)  (d:Nat->Nat->ae->Prop) (Q:VH) (step:∀(b:Nat)(i:Nat)(f:Nat->Value)(h:ae),d b i h->au (decide (((i:Int):Int)<((l:LB).length:Int))) (xI .u8 (bM SS.P 9 (strOf l) (iA i)) λa=>au (((a:Int)==c)) (Q (iA i) h) (aB (eR (jh l c) d) b [(strOf l),(.int .u8 c),(.int .i64 (wrap .i64 ((i:Int)+1)))] h)) (Q (.int .i64 (-1)) h)) (b:Nat) {i:Nat} {h:ae} (e:d b i h):LL SS jI [1,0,1,0,0] (jh l c i) h (KK SS jI [1,0,1,0] [] (EE SS jI Q)):=
 cY (jh l c) d (λb i f h e=>ai (step b i f h e)) b e
noncomputable def J2:FD:=cA Tryz.f117 []
theorem Ht(l:LB)(h:ae)(Q:VH)(d:au (decide ((((l:LB).length:Int):Int)<=400)) (FW SS 136 [(strOf l)] h λb c=>yB b λa=>Q (.bool a) c) (Q (.bool false) h)):FW SS 117 [(strOf l)] h Q:=cN J2 Tryz.func117 (ai d)
noncomputable def av:FD:=cA Tryz.f94 []
abbrev AG(l:LB)(cc:Code)(h:ae)(Q:VH):Prop:=au (decide ((((l:LB).length:Int):Int)>0)) (xI .u8 (bM SS.P 9 (strOf l) (.int .i64 0)) λc=>au (((c:Int)==45)) (xS (bP SS.P 9 (strOf l) (some (.int .i64 1)) none none h) λe=>FW SS 116 [(strOf e),(.int .u8 47)] h λr g=>yI .i64 r λd=>au (decide ((d:Int)>=0)) (xS (bP SS.P 9 (strOf e) (some (.int .i64 (wrap .i64 (d+1)))) none none g) λp=>xS (bP SS.P 9 (strOf e) none (some (.int .i64 d)) none g) λo=>wpS SS av.nm av.ms [1,1,1,1,1,1] cc (uN [(strOf l),undef,(.bool false),(strOf []),(strOf []),(.bool false),(strOf o),(strOf p),(.bool (((c:Int)==45))),(.int .i64 d),undef,undef,(strOf l),(strOf l),(.int .i64 ((l:LB).length:Int)),(.bool (decide ((((l:LB).length:Int):Int)>0))),(.bool true),(strOf l),(.int .u8 c),(.bool (((c:Int)==45))),(.bool (((c:Int)==45))),(.bool (((c:Int)==45))),(strOf l),(strOf e),(strOf e),(.int .i64 d),(.int .i64 d),(.bool (decide ((d:Int)>=0))),(strOf e),(.int .i64 d),(.int .i64 (wrap .i64 (d+1))),(strOf p),(strOf e),(.int .i64 d),(strOf o)] 46) g (EE SS av Q)) (wpS SS av.nm av.ms [1,1,1,1,1,1] cc (uN [(strOf l),undef,(.bool false),(strOf []),(strOf []),(.bool false),(strOf e),(strOf [49]),(.bool (((c:Int)==45))),(.int .i64 d),undef,undef,(strOf l),(strOf l),(.int .i64 ((l:LB).length:Int)),(.bool (decide ((((l:LB).length:Int):Int)>0))),(.bool true),(strOf l),(.int .u8 c),(.bool (((c:Int)==45))),(.bool (((c:Int)==45))),(.bool (((c:Int)==45))),(strOf l),(strOf e),(strOf e),(.int .i64 d),(.int .i64 d),(.bool (decide ((d:Int)>=0)))] 53) g (EE SS av Q))) (FW SS 116 [(strOf l),(.int .u8 47)] h λs i=>yI .i64 s λb=>au (decide ((b:Int)>=0)) (xS (bP SS.P 9 (strOf l) (some (.int .i64 (wrap .i64 (b+1)))) none none i) λn=>xS (bP SS.P 9 (strOf l) none (some (.int .i64 b)) none i) λk=>wpS SS av.nm av.ms [1,1,1,1,1,1] cc (uN [(strOf l),undef,(.bool false),(strOf []),(strOf []),(.bool false),(strOf k),(strOf n),(.bool (((c:Int)==45))),(.int .i64 b),undef,undef,(strOf l),(strOf l),(.int .i64 ((l:LB).length:Int)),(.bool (decide ((((l:LB).length:Int):Int)>0))),(.bool true),(strOf l),(.int .u8 c),(.bool (((c:Int)==45))),(.bool (((c:Int)==45))),(.bool (((c:Int)==45))),undef,undef,(strOf l),(.int .i64 b),(.int .i64 b),(.bool (decide ((b:Int)>=0))),(strOf l),(.int .i64 b),(.int .i64 (wrap .i64 (b+1))),(strOf n),(strOf l),(.int .i64 b),(strOf k)] 46) i (EE SS av Q)) (wpS SS av.nm av.ms [1,1,1,1,1,1] cc (uN [(strOf l),undef,(.bool false),(strOf []),(strOf []),(.bool false),(strOf l),(strOf [49]),(.bool (((c:Int)==45))),(.int .i64 b),undef,undef,(strOf l),(strOf l),(.int .i64 ((l:LB).length:Int)),(.bool (decide ((((l:LB).length:Int):Int)>0))),(.bool true),(strOf l),(.int .u8 c),(.bool (((c:Int)==45))),(.bool (((c:Int)==45))),(.bool (((c:Int)==45))),undef,undef,(strOf l),(.int .i64 b),(.int .i64 b),(.bool (decide ((b:Int)>=0)))] 53) i (EE SS av Q)))) (FW SS 116 [(strOf l),(.int .u8 47)] h λq f=>yI .i64 q λa=>au (decide ((a:Int)>=0)) (xS (bP SS.P 9 (strOf l) (some (.int .i64 (wrap .i64 (a+1)))) none none f) λm=>xS (bP SS.P 9 (strOf l) none (some (.int .i64 a)) none f) λj=>wpS SS av.nm av.ms [1,1,1,1,1,1] cc (uN [(strOf l),undef,(.bool false),(strOf []),(strOf []),(.bool false),(strOf j),(strOf m),(.bool false),(.int .i64 a),undef,undef,(strOf l),(strOf l),(.int .i64 ((l:LB).length:Int)),(.bool (decide ((((l:LB).length:Int):Int)>0))),(.bool false),undef,undef,undef,(.bool false),(.bool false),undef,undef,(strOf l),(.int .i64 a),(.int .i64 a),(.bool (decide ((a:Int)>=0))),(strOf l),(.int .i64 a),(.int .i64 (wrap .i64 (a+1))),(strOf m),(strOf l),(.int .i64 a),(strOf j)] 46) f (EE SS av Q)) (wpS SS av.nm av.ms [1,1,1,1,1,1] cc (uN [(strOf l),undef,(.bool false),(strOf []),(strOf []),(.bool false),(strOf l),(strOf [49]),(.bool false),(.int .i64 a),undef,undef,(strOf l),(strOf l),(.int .i64 ((l:LB).length:Int)),(.bool (decide ((((l:LB).length:Int):Int)>0))),(.bool false),undef,undef,undef,(.bool false),(.bool false),undef,undef,(strOf l),(.int .i64 a),(.int .i64 a),(.bool (decide ((a:Int)>=0)))] 53) f (EE SS av Q)))
theorem Hs(l:LB)(h:ae)(Q:VH)(a:AG l (fI [1,1,1,1,1,1] av.body) h Q):FW SS 94 [(strOf l)] h Q:=by
 have e:∀cc,AG l cc h Q=wpS SS av.nm av.ms [] (setAt [1,1,1,1,1,1] cc av.body) ([(strOf l)]++List.replicate (av.nm-([(strOf l)]:LV).length) undef) h (EE SS av Q):=λcc=>by kernel_rfl
 have e:=e (fI [1,1,1,1,1,1] av.body);rw[iS]at e;exact cN av Tryz.func94 (ai a e)
abbrev tF(n d:LB)(neg:Bool)(a:Int)(cc:Code)(Z x1 X x3 Y W K L m H x P U G O M o l k w z V J B s I D p S i j x7 y9 u5 u4 y8 y3 y1 y6 z2 y0 x9 u0 u6 u3 z4 u2 z5 y5 x8 z9 x6 u1 z6 z7 y7 z8 y4 z1 z3 z0 y2 q t C r u A T E F y f g v N R:Value)(h:ae)(Q:VH):Prop:=FW SS 117 [(strOf n)] h λv1 h2=>yB v1 λe=>au (!e) (Q (.tuple ⟨[(.bool false),(strOf []),(strOf []),(.bool false)]⟩) h2) (FW SS 117 [(strOf d)] h2 λv4 c=>yB v4 λb=>au (!b) (Q (.tuple ⟨[(.bool false),(strOf []),(strOf []),(.bool false)]⟩) c) (au ((d:LB)==[48]) (Q (.tuple ⟨[(.bool false),(strOf []),(strOf []),(.bool false)]⟩) c) (au ((n:LB)==[48]) (au neg (Q (.tuple ⟨[(.bool false),(strOf []),(strOf []),(.bool false)]⟩) c) (au (decide ((a:Int)>=0)) (Q (.tuple ⟨[(.bool false),(strOf []),(strOf []),(.bool false)]⟩) c) (au ((d:LB)==[49]) (au (decide ((a:Int)>=0)) (Q (.tuple ⟨[(.bool false),(strOf []),(strOf []),(.bool false)]⟩) c) (wpS SS av.nm av.ms [1,1,1,1,1,1,1] cc [Z,x1,X,x3,Y,W,(strOf n),(strOf d),(.bool neg),(.int .i64 a),K,L,m,H,x,P,U,G,O,M,o,l,k,w,z,V,J,B,s,I,D,p,S,i,j,(strOf n),(.bool e),(.bool (!e)),(.bool false),(strOf d),(.bool b),(.bool (!b)),(.bool (!b)),(.bool false),(strOf d),(.bool ((d:LB)==[48])),(.bool ((d:LB)==[48])),(.bool false),(strOf n),(.bool ((n:LB)==[48])),(.bool true),(.bool neg),(.bool false),(.int .i64 a),(.bool (decide ((a:Int)>=0))),(.bool (decide ((a:Int)>=0))),(.bool (decide ((a:Int)>=0))),(.bool (decide ((a:Int)>=0))),(.bool false),(strOf d),(.bool ((d:LB)==[49])),(.bool true),(.int .i64 a),(.bool (decide ((a:Int)>=0))),(.bool (decide ((a:Int)>=0))),(.bool (decide ((a:Int)>=0))),q,t,C,r,u,A,T,E,F,y,f,g,v,N,R] c (EE SS av Q))) (wpS SS av.nm av.ms [1,1,1,1,1,1,1] cc [Z,x1,X,x3,Y,W,(strOf n),(strOf d),(.bool neg),(.int .i64 a),K,L,m,H,x,P,U,G,O,M,o,l,k,w,z,V,J,B,s,I,D,p,S,i,j,(strOf n),(.bool e),(.bool (!e)),(.bool false),(strOf d),(.bool b),(.bool (!b)),(.bool (!b)),(.bool false),(strOf d),(.bool ((d:LB)==[48])),(.bool ((d:LB)==[48])),(.bool false),(strOf n),(.bool ((n:LB)==[48])),(.bool true),(.bool neg),(.bool false),(.int .i64 a),(.bool (decide ((a:Int)>=0))),(.bool (decide ((a:Int)>=0))),(.bool (decide ((a:Int)>=0))),(.bool (decide ((a:Int)>=0))),(.bool false),(strOf d),(.bool ((d:LB)==[49])),(.bool false),undef,undef,(.bool false),(.bool false),q,t,C,r,u,A,T,E,F,y,f,g,v,N,R] c (EE SS av Q))))) (au ((d:LB)==[49]) (au (decide ((a:Int)>=0)) (Q (.tuple ⟨[(.bool false),(strOf []),(strOf []),(.bool false)]⟩) c) (wpS SS av.nm av.ms [1,1,1,1,1,1,1] cc [Z,x1,X,x3,Y,W,(strOf n),(strOf d),(.bool neg),(.int .i64 a),K,L,m,H,x,P,U,G,O,M,o,l,k,w,z,V,J,B,s,I,D,p,S,i,j,(strOf n),(.bool e),(.bool (!e)),(.bool false),(strOf d),(.bool b),(.bool (!b)),(.bool (!b)),(.bool false),(strOf d),(.bool ((d:LB)==[48])),(.bool ((d:LB)==[48])),(.bool false),(strOf n),(.bool ((n:LB)==[48])),(.bool false),undef,undef,undef,undef,undef,(.bool false),(.bool false),(.bool false),(strOf d),(.bool ((d:LB)==[49])),(.bool true),(.int .i64 a),(.bool (decide ((a:Int)>=0))),(.bool (decide ((a:Int)>=0))),(.bool (decide ((a:Int)>=0))),q,t,C,r,u,A,T,E,F,y,f,g,v,N,R] c (EE SS av Q))) (wpS SS av.nm av.ms [1,1,1,1,1,1,1] cc [Z,x1,X,x3,Y,W,(strOf n),(strOf d),(.bool neg),(.int .i64 a),K,L,m,H,x,P,U,G,O,M,o,l,k,w,z,V,J,B,s,I,D,p,S,i,j,(strOf n),(.bool e),(.bool (!e)),(.bool false),(strOf d),(.bool b),(.bool (!b)),(.bool (!b)),(.bool false),(strOf d),(.bool ((d:LB)==[48])),(.bool ((d:LB)==[48])),(.bool false),(strOf n),(.bool ((n:LB)==[48])),(.bool false),undef,undef,undef,undef,undef,(.bool false),(.bool false),(.bool false),(strOf d),(.bool ((d:LB)==[49])),(.bool false),undef,undef,(.bool false),(.bool false),q,t,C,r,u,A,T,E,F,y,f,g,v,N,R] c (EE SS av Q))))))
theorem Bb{neg:Bool}{x2 x3 x4 x5 y4 y6 x y0 N z2 z9 x9 z1 y8 y p m M P u2 y3 U H y2 Y D z7 f l d C u0 z6 B o k u R j i y7 u1 z4 V z3 X r g y5 a y9 Z x7 A y1 q K S G n E I W F J T z8 x6 x8 O b c L z0 z5:Value}(hx:tF s t neg z (fI [1,1,1,1,1,1,1] av.body) v w x2 x3 x4 x5 y4 y6 x y0 N z2 z9 x9 z1 y8 y p m M P u2 y3 U H y2 Y D z7 f l d C u0 z6 B o k u R j i y7 u1 z4 V z3 X r g y5 a y9 Z x7 A y1 q K S G n E I W F J T z8 x6 x8 O b c L z0 z5 h Q):TT SS av [1,1,1,1,1,1] [v,w,x2,x3,x4,x5,(strOf s),(strOf t),(.bool neg),(.int .i64 z),y4,y6,x,y0,N,z2,z9,x9,z1,y8,y,p,m,M,P,u2,y3,U,H,y2,Y,D,z7,f,l,d,C,u0,z6,B,o,k,u,R,j,i,y7,u1,z4,V,z3,X,r,g,y5,a,y9,Z,x7,A,y1,q,K,S,G,n,E,I,W,F,J,T,z8,x6,x8,O,b,c,L,z0,z5] h (EE SS av Q):=by
 have e:∀cc,tF s t neg z cc v w x2 x3 x4 x5 y4 y6 x y0 N z2 z9 x9 z1 y8 y p m M P u2 y3 U H y2 Y D z7 f l d C u0 z6 B o k u R j i y7 u1 z4 V z3 X r g y5 a y9 Z x7 A y1 q K S G n E I W F J T z8 x6 x8 O b c L z0 z5 h Q=wpS SS av.nm av.ms [1,1,1,1,1,1] (setAt [1] cc (fI [1,1,1,1,1,1] av.body)) [v,w,x2,x3,x4,x5,(strOf s),(strOf t),(.bool neg),(.int .i64 z),y4,y6,x,y0,N,z2,z9,x9,z1,y8,y,p,m,M,P,u2,y3,U,H,y2,Y,D,z7,f,l,d,C,u0,z6,B,o,k,u,R,j,i,y7,u1,z4,V,z3,X,r,g,y5,a,y9,Z,x7,A,y1,q,K,S,G,n,E,I,W,F,J,T,z8,x6,x8,O,b,c,L,z0,z5] h (EE SS av Q):=λcc=>by kernel_rfl
 have e:=e (fI [1,1,1,1,1,1,1] av.body);have ec:(fI [1,1,1,1,1,1,1] av.body)=fI [1] (fI [1,1,1,1,1,1] av.body):=by kernel_rfl
 have es:setAt [1] (fI [1,1,1,1,1,1,1] av.body) (fI [1,1,1,1,1,1] av.body)=fI [1,1,1,1,1,1] av.body:=by rw[ec,iS]
 rw[es]at e;exact ai hx e
theorem Bc{neg:Bool}{x2 x3 x4 x5 y7 y9 B y3 R z5 u2 y2 z4 z1 C u p P T u5 y6 X K y5 x7 G u0 j o i F u3 z9 E r n A U m l z0 u4 z7 Y z6 x6 y k y8 d z2 x8 y0 D y4 x N V J q H L Z I M W u1 x9 y1 S f g O z3 z8:Value}(hx:FW SS 118 [(strOf s),(strOf t)] h λc e=>∃b:LB,∃a:Int,c=(.tuple ⟨[(strOf b),(.int .i64 a)]⟩)/\au (!((b:LB)==[49])) (au (!((t:LB)==[49])) (Q (.tuple ⟨[(.bool false),(strOf []),(strOf []),(.bool false)]⟩) e) (Q (.tuple ⟨[(.bool neg),(strOf s),(strOf t),(.bool true)]⟩) e)) (Q (.tuple ⟨[(.bool neg),(strOf s),(strOf t),(.bool true)]⟩) e)):TT SS av [1,1,1,1,1,1,1] [v,w,x2,x3,x4,x5,(strOf s),(strOf t),(.bool neg),(.int .i64 z),y7,y9,B,y3,R,z5,u2,y2,z4,z1,C,u,p,P,T,u5,y6,X,K,y5,x7,G,u0,j,o,i,F,u3,z9,E,r,n,A,U,m,l,z0,u4,z7,Y,z6,x6,y,k,y8,d,z2,x8,y0,D,y4,x,N,V,J,q,H,L,Z,I,M,W,u1,x9,y1,S,f,g,O,z3,z8] h (EE SS av Q):=ai hx
noncomputable def J4:FD:=cA Tryz.f71 []
theorem Hv(l:LB)(h:ae)(Q:VH)(g:FW SS 94 [(strOf l)] h λe f=>∃d:Bool,∃c:LB,∃b:LB,∃a:Bool,e=(.tuple ⟨[(.bool d),(strOf c),(strOf b),(.bool a)]⟩)/\Q (.bool a) f):FW SS 71 [(strOf l)] h Q:=cN J4 Tryz.func71 (ai g)
noncomputable def J3:FD:=cA Tryz.f96 []
theorem Hu(l m:LB)(h:ae)(Q:VH)(e:FW SS 122 [(strOf l),(strOf m)] h λc d=>∃b:LB,∃a:Int,c=(.tuple ⟨[(strOf b),(.int .i64 a)]⟩)/\Q (strOf b) d):FW SS 96 [(strOf l),(strOf m)] h Q:=cN J3 Tryz.func96 (ai e)
noncomputable def QA:FD:=cA Tryz.f95 []
theorem Mv(p:Bool)(l:LB)(q:Bool)(m:LB)(h:ae)(Q:VH)(i:au (p==q) (FW SS 119 [(strOf l),(strOf m)] h λc d=>∃b:LB,∃a:Int,c=(.tuple ⟨[(strOf b),(.int .i64 a)]⟩)/\Q (.tuple ⟨[(.bool p),(strOf b)]⟩) d) (FW SS 120 [(strOf l),(strOf m)] h λf g=>yI .i64 f λe=>au (decide ((e:Int)>=0)) (FW SS 121 [(strOf l),(strOf m)] g λc d=>∃b:LB,∃a:Int,c=(.tuple ⟨[(strOf b),(.int .i64 a)]⟩)/\Q (.tuple ⟨[(.bool p),(strOf b)]⟩) d) (FW SS 121 [(strOf m),(strOf l)] g λc d=>∃b:LB,∃a:Int,c=(.tuple ⟨[(strOf b),(.int .i64 a)]⟩)/\Q (.tuple ⟨[(.bool q),(strOf b)]⟩) d))):FW SS 95 [(.bool p),(strOf l),(.bool q),(strOf m)] h Q:=cN QA Tryz.func95 (ai i)
noncomputable def Qz:FD:=cA Tryz.f72 []
theorem Mu(l m:LB)(h:ae)(Q:VH)(w:FW SS 94 [(strOf l)] h λu v=>∃t:Bool,∃s:LB,∃r:LB,∃q:Bool,u=(.tuple ⟨[(.bool t),(strOf s),(strOf r),(.bool q)]⟩)/\FW SS 94 [(strOf m)] v λo p=>∃n:Bool,∃m:LB,∃l:LB,∃k:Bool,o=(.tuple ⟨[(.bool n),(strOf m),(strOf l),(.bool k)]⟩)/\au (!q) (Q (.int .i64 0) p) (au (!k) (Q (.int .i64 0) p) (FW SS 96 [(strOf s),(strOf l)] p λi j=>yS i λh=>FW SS 96 [(strOf m),(strOf r)] j λf g=>yS f λe=>FW SS 95 [(.bool t),(strOf h),(.bool (!n)),(strOf e)] g λc d=>∃b:Bool,∃a:LB,c=(.tuple ⟨[(.bool b),(strOf a)]⟩)/\au ((a:LB)==[48]) (Q (.int .i64 0) d) (au b (Q (.int .i64 (-1)) d) (Q (.int .i64 1) d))))):FW SS 72 [(strOf l),(strOf m)] h Q:=cN Qz Tryz.func72 (ai w)
noncomputable def Qq:FD:=cA Tryz.f142 []
theorem Mp(l:LB)(e:Int)(h:ae)(Q:VH)(a:au (((e:Int) !=0)) (xA (bh SS.P 176 []) λ_=>False) (Q (strOf l) h)):FW SS 142 [(strOf l),(.int .i64 e)] h Q:=cN Qq Tryz.func142 (ai a)
noncomputable def al:FD:=cA Tryz.f145 []
abbrev De(l:LB)(cc:Code)(h:ae)(Q:VH):Prop:=xN (bq SS.P 155) h λm j=>FW SS 177 [(strOf l),(strOf [45])] j λg k=>∃c:LB,∃d:Bool,g=(.tuple ⟨[(strOf c),(.bool d)]⟩)/\FW SS 178 [(strOf c),(strOf [47])] k λi f=>∃e:LB,∃b:LB,∃a:Bool,i=(.tuple ⟨[(strOf e),(strOf b),(.bool a)]⟩)/\au (!a) (wpS SS al.nm al.ms [1,1,1,1] cc (uN [(strOf l),undef,(pA (h.next)),(.bool false),(strOf c),(.bool d),(strOf e),(strOf [49]),(.bool a),undef,undef,(.tuple ⟨[(strOf c),(.bool d)]⟩),(strOf l),(.tuple ⟨[(strOf c),(.bool d)]⟩),(strOf c),(.bool d),(.tuple ⟨[(strOf e),(strOf b),(.bool a)]⟩),(strOf c),(.tuple ⟨[(strOf e),(strOf b),(.bool a)]⟩),(strOf e),(strOf b),(.bool a),(.bool a),(.bool (!a))] 53) f (EE SS al Q)) (wpS SS al.nm al.ms [1,1,1,1] cc (uN [(strOf l),undef,(pA (h.next)),(.bool false),(strOf c),(.bool d),(strOf e),(strOf b),(.bool a),undef,undef,(.tuple ⟨[(strOf c),(.bool d)]⟩),(strOf l),(.tuple ⟨[(strOf c),(.bool d)]⟩),(strOf c),(.bool d),(.tuple ⟨[(strOf e),(strOf b),(.bool a)]⟩),(strOf c),(.tuple ⟨[(strOf e),(strOf b),(.bool a)]⟩),(strOf e),(strOf b),(.bool a),(.bool a),(.bool (!a))] 53) f (EE SS al Q))
theorem JY(l:LB)(h:ae)(Q:VH)(a:De l (fI [1,1,1,1] al.body) h Q):FW SS 145 [(strOf l)] h Q:=by
 have e:∀cc,De l cc h Q=wpS SS al.nm al.ms [] (setAt [1,1,1,1] cc al.body) ([(strOf l)]++List.replicate (al.nm-([(strOf l)]:LV).length) undef) h (EE SS al Q):=λcc=>by kernel_rfl
 have e:=e (fI [1,1,1,1] al.body);rw[iS]at e;exact cN al Tryz.func145 (ai a e)
abbrev vw(n d:LB)(neg r:Bool)(p:Addr)(cc:Code)(x0 x1 x3 x4 x9 Z x5 v X G y1 y6 W y0 x7 w q m F z9 u9 u4 u1 z8 u3 u2 z7 u7 z0 z2 y9 z6 u8 u6 z5 z3 z1 u I l j x6 y7 y3 N y2 P t i x2 f x8 S U x Y s E J A o y C O z D K y4 T V H g:Value)(h:ae)(Q:VH):Prop:=FW SS 171 [(strOf n)] h λv1 e=>yB v1 λc=>au (!c) (xA (bh SS.P 155 []) λc4=>xU (ah SS.P 155 (.pointer (some p)) (.agg ⟨c4⟩) e) e λu5 g6=>dY SS [((.pointer (some p)),some 155),((.bool false),none)] g6 Q) (FW SS 171 [(strOf d)] e λv7 a=>yB v7 λb=>au (!b) (xA (bh SS.P 155 []) λy5=>xU (ah SS.P 155 (.pointer (some p)) (.agg ⟨y5⟩) a) a λz4 k=>dY SS [((.pointer (some p)),some 155),((.bool false),none)] k Q) (au (decide ((((n:LB).length:Int):Int)>400)) (xA (bh SS.P 155 []) λM=>xU (ah SS.P 155 (.pointer (some p)) (.agg ⟨M⟩) a) a λy8 L=>dY SS [((.pointer (some p)),some 155),((.bool false),none)] L Q) (au (decide ((((d:LB).length:Int):Int)>400)) (xA (bh SS.P 155 []) λR=>xU (ah SS.P 155 (.pointer (some p)) (.agg ⟨R⟩) a) a λu0 B=>dY SS [((.pointer (some p)),some 155),((.bool false),none)] B Q) (wpS SS al.nm al.ms [1,1,1,1,1] cc [x0,x1,(.pointer (some p)),x3,x4,(.bool neg),(strOf n),(strOf d),(.bool r),x9,Z,x5,v,X,G,y1,y6,W,y0,x7,w,q,m,F,(strOf n),(.bool c),(.bool (!c)),(.bool false),(strOf d),(.bool b),(.bool (!b)),(.bool (!b)),(.bool false),(strOf n),(.int .i64 ((n:LB).length:Int)),(.bool (decide ((((n:LB).length:Int):Int)>400))),(.bool (decide ((((n:LB).length:Int):Int)>400))),(.bool false),(strOf d),(.int .i64 ((d:LB).length:Int)),(.bool (decide ((((d:LB).length:Int):Int)>400))),(.bool (decide ((((d:LB).length:Int):Int)>400))),u,I,l,j,x6,y7,y3,N,y2,P,t,i,x2,f,x8,S,U,x,Y,s,E,J,A,o,y,C,O,z,D,K,y4,T,V,H,g] a (EE SS al Q)))))
theorem Df{neg:Bool}{p:Addr}{x3 x4 x9 y2 y4 y x7 M y9 z5 x6 y8 y6 z q m L O z8 y1 T H y0 X D z3 f l d C z6 z2 B o k x P j i y5 z7 z1 U z0 W u g y3 a y7 Y x2 A x8 r K R G n E I V F J S z4 Z x5 N c:Value}(hx:vw s t neg b p (fI [1,1,1,1,1] al.body) v w x3 x4 x9 y2 y4 y x7 M y9 z5 x6 y8 y6 z q m L O z8 y1 T H y0 X D z3 f l d C z6 z2 B o k x P j i y5 z7 z1 U z0 W u g y3 a y7 Y x2 A x8 r K R G n E I V F J S z4 Z x5 N c h Q):TT SS al [1,1,1,1] [v,w,(.pointer (some p)),x3,x4,(.bool neg),(strOf s),(strOf t),(.bool b),x9,y2,y4,y,x7,M,y9,z5,x6,y8,y6,z,q,m,L,O,z8,y1,T,H,y0,X,D,z3,f,l,d,C,z6,z2,B,o,k,x,P,j,i,y5,z7,z1,U,z0,W,u,g,y3,a,y7,Y,x2,A,x8,r,K,R,G,n,E,I,V,F,J,S,z4,Z,x5,N,c] h (EE SS al Q):=by
 have e:∀cc,vw s t neg b p cc v w x3 x4 x9 y2 y4 y x7 M y9 z5 x6 y8 y6 z q m L O z8 y1 T H y0 X D z3 f l d C z6 z2 B o k x P j i y5 z7 z1 U z0 W u g y3 a y7 Y x2 A x8 r K R G n E I V F J S z4 Z x5 N c h Q=wpS SS al.nm al.ms [1,1,1,1] (setAt [1] cc (fI [1,1,1,1] al.body)) [v,w,(.pointer (some p)),x3,x4,(.bool neg),(strOf s),(strOf t),(.bool b),x9,y2,y4,y,x7,M,y9,z5,x6,y8,y6,z,q,m,L,O,z8,y1,T,H,y0,X,D,z3,f,l,d,C,z6,z2,B,o,k,x,P,j,i,y5,z7,z1,U,z0,W,u,g,y3,a,y7,Y,x2,A,x8,r,K,R,G,n,E,I,V,F,J,S,z4,Z,x5,N,c] h (EE SS al Q):=λcc=>by kernel_rfl
 have e:=e (fI [1,1,1,1,1] al.body);have ec:(fI [1,1,1,1,1] al.body)=fI [1] (fI [1,1,1,1] al.body):=by kernel_rfl
 have es:setAt [1] (fI [1,1,1,1,1] al.body) (fI [1,1,1,1] al.body)=fI [1,1,1,1] al.body:=by rw[ec,iS]
 rw[es]at e;exact ai hx e
abbrev vx(n d:LB)(neg a:Bool)(p:Addr)(cc:Code)(x0 x1 x3 x4 x9 U V q P E Y x6 O X W r l i D G x8 T J z S L v x2 e g c u x7 Z t k f o z1 y8 y7 z7 u1 u0 z2 z9 z3 z0 y6 z6 y5 z8 z4 z5 s R m C H y j w A K x B I x5 M N F b:Value)(h:ae)(Q:VH):Prop:=au neg (au ((n:LB)==[48]) (xA (bh SS.P 155 []) λc1=>xU (ah SS.P 155 (.pointer (some p)) (.agg ⟨c1⟩) h) h λu2 g3=>dY SS [((.pointer (some p)),some 155),((.bool false),none)] g3 Q) (au a (au ((d:LB)==[48]) (xA (bh SS.P 155 []) λc4=>xU (ah SS.P 155 (.pointer (some p)) (.agg ⟨c4⟩) h) h λu5 g6=>dY SS [((.pointer (some p)),some 155),((.bool false),none)] g6 Q) (au ((d:LB)==[49]) (xA (bh SS.P 155 []) λc7=>xU (ah SS.P 155 (.pointer (some p)) (.agg ⟨c7⟩) h) h λu8 g9=>dY SS [((.pointer (some p)),some 155),((.bool false),none)] g9 Q) (wpS SS al.nm al.ms [1,1,1,1,1,1] cc [x0,x1,(.pointer (some p)),x3,x4,(.bool neg),(strOf n),(strOf d),(.bool a),x9,U,V,q,P,E,Y,x6,O,X,W,r,l,i,D,G,x8,T,J,z,S,L,v,x2,e,g,c,u,x7,Z,t,k,f,o,(.bool neg),(.bool true),(strOf n),(.bool ((n:LB)==[48])),(.bool ((n:LB)==[48])),(.bool false),(.bool a),(.bool true),(strOf d),(.bool ((d:LB)==[48])),(.bool false),(strOf d),(.bool ((d:LB)==[49])),(.bool ((d:LB)==[49])),(.bool ((d:LB)==[49])),(.bool ((d:LB)==[49])),s,R,m,C,H,y,j,w,A,K,x,B,I,x5,M,N,F,b] h (EE SS al Q)))) (wpS SS al.nm al.ms [1,1,1,1,1,1] cc [x0,x1,(.pointer (some p)),x3,x4,(.bool neg),(strOf n),(strOf d),(.bool a),x9,U,V,q,P,E,Y,x6,O,X,W,r,l,i,D,G,x8,T,J,z,S,L,v,x2,e,g,c,u,x7,Z,t,k,f,o,(.bool neg),(.bool true),(strOf n),(.bool ((n:LB)==[48])),(.bool ((n:LB)==[48])),(.bool false),(.bool a),(.bool false),undef,undef,undef,undef,undef,undef,(.bool false),(.bool false),s,R,m,C,H,y,j,w,A,K,x,B,I,x5,M,N,F,b] h (EE SS al Q)))) (au a (au ((d:LB)==[48]) (xA (bh SS.P 155 []) λy3=>xU (ah SS.P 155 (.pointer (some p)) (.agg ⟨y3⟩) h) h λy9 y0=>dY SS [((.pointer (some p)),some 155),((.bool false),none)] y0 Q) (au ((d:LB)==[49]) (xA (bh SS.P 155 []) λy2=>xU (ah SS.P 155 (.pointer (some p)) (.agg ⟨y2⟩) h) h λy4 y1=>dY SS [((.pointer (some p)),some 155),((.bool false),none)] y1 Q) (wpS SS al.nm al.ms [1,1,1,1,1,1] cc [x0,x1,(.pointer (some p)),x3,x4,(.bool neg),(strOf n),(strOf d),(.bool a),x9,U,V,q,P,E,Y,x6,O,X,W,r,l,i,D,G,x8,T,J,z,S,L,v,x2,e,g,c,u,x7,Z,t,k,f,o,(.bool neg),(.bool false),undef,undef,(.bool false),(.bool false),(.bool a),(.bool true),(strOf d),(.bool ((d:LB)==[48])),(.bool false),(strOf d),(.bool ((d:LB)==[49])),(.bool ((d:LB)==[49])),(.bool ((d:LB)==[49])),(.bool ((d:LB)==[49])),s,R,m,C,H,y,j,w,A,K,x,B,I,x5,M,N,F,b] h (EE SS al Q)))) (wpS SS al.nm al.ms [1,1,1,1,1,1] cc [x0,x1,(.pointer (some p)),x3,x4,(.bool neg),(strOf n),(strOf d),(.bool a),x9,U,V,q,P,E,Y,x6,O,X,W,r,l,i,D,G,x8,T,J,z,S,L,v,x2,e,g,c,u,x7,Z,t,k,f,o,(.bool neg),(.bool false),undef,undef,(.bool false),(.bool false),(.bool a),(.bool false),undef,undef,undef,undef,undef,undef,(.bool false),(.bool false),s,R,m,C,H,y,j,w,A,K,x,B,I,x5,M,N,F,b] h (EE SS al Q)))
theorem Dg{neg:Bool}{p:Addr}{x3 x4 x9 y2 y4 y x7 M y9 z5 x6 y8 y6 z q m L O z8 y1 T H y0 X D z3 f l d C z6 z2 B o k x P j i y5 z7 z1 U z0 W u g y3 a y7 Y x2 A x8 r K R G n E I V F J S z4 Z x5 N c:Value}(hx:vx s t neg b p (fI [1,1,1,1,1,1] al.body) v w x3 x4 x9 y2 y4 y x7 M y9 z5 x6 y8 y6 z q m L O z8 y1 T H y0 X D z3 f l d C z6 z2 B o k x P j i y5 z7 z1 U z0 W u g y3 a y7 Y x2 A x8 r K R G n E I V F J S z4 Z x5 N c h Q):TT SS al [1,1,1,1,1] [v,w,(.pointer (some p)),x3,x4,(.bool neg),(strOf s),(strOf t),(.bool b),x9,y2,y4,y,x7,M,y9,z5,x6,y8,y6,z,q,m,L,O,z8,y1,T,H,y0,X,D,z3,f,l,d,C,z6,z2,B,o,k,x,P,j,i,y5,z7,z1,U,z0,W,u,g,y3,a,y7,Y,x2,A,x8,r,K,R,G,n,E,I,V,F,J,S,z4,Z,x5,N,c] h (EE SS al Q):=by
 have e:∀cc,vx s t neg b p cc v w x3 x4 x9 y2 y4 y x7 M y9 z5 x6 y8 y6 z q m L O z8 y1 T H y0 X D z3 f l d C z6 z2 B o k x P j i y5 z7 z1 U z0 W u g y3 a y7 Y x2 A x8 r K R G n E I V F J S z4 Z x5 N c h Q=wpS SS al.nm al.ms [1,1,1,1,1] (setAt [1] cc (fI [1,1,1,1,1] al.body)) [v,w,(.pointer (some p)),x3,x4,(.bool neg),(strOf s),(strOf t),(.bool b),x9,y2,y4,y,x7,M,y9,z5,x6,y8,y6,z,q,m,L,O,z8,y1,T,H,y0,X,D,z3,f,l,d,C,z6,z2,B,o,k,x,P,j,i,y5,z7,z1,U,z0,W,u,g,y3,a,y7,Y,x2,A,x8,r,K,R,G,n,E,I,V,F,J,S,z4,Z,x5,N,c] h (EE SS al Q):=λcc=>by kernel_rfl
 have e:=e (fI [1,1,1,1,1,1] al.body);have ec:(fI [1,1,1,1,1,1] al.body)=fI [1] (fI [1,1,1,1,1] al.body):=by kernel_rfl
 have es:setAt [1] (fI [1,1,1,1,1,1] al.body) (fI [1,1,1,1,1] al.body)=fI [1,1,1,1,1] al.body:=by rw[ec,iS]
 rw[es]at e;exact ai hx e
abbrev vy(n d:LB)(neg t:Bool)(p:Addr)(cc:Code)(x0 x1 x3 x4 x9 z9 W w S E x6 y3 R x5 Z x s q D G y6 U I C T L B y1 i o g A y4 y0 z r m v H l k Y y5 x8 J x7 K u j V e x2 M O y z8 y8 z4 z5 z1 y7 y9 z2 z7 z0 z3 z6 y2 N P F f:Value)(h:ae)(Q:VH):Prop:=FW SS 175 [(strOf n),(strOf d)] h λv1 c=>∃a:LB,∃b:Int,v1=(.tuple ⟨[(strOf a),(.int .i64 b)]⟩)/\au (((b:Int) !=0)) (xA (bh SS.P 155 []) λc5=>xU (ah SS.P 155 (.pointer (some p)) (.agg ⟨c5⟩) c) c λu6 g7=>dY SS [((.pointer (some p)),some 155),((.bool false),none)] g7 Q) (au (!((a:LB)==[49])) (xA (bh SS.P 155 []) λc8=>xU (ah SS.P 155 (.pointer (some p)) (.agg ⟨c8⟩) c) c λu9 X=>dY SS [((.pointer (some p)),some 155),((.bool false),none)] X Q) (wpS SS al.nm al.ms [1,1,1,1,1,1,1] cc [x0,x1,(.pointer (some p)),x3,x4,(.bool neg),(strOf n),(strOf d),(.bool t),(strOf a),(.int .i64 b),W,w,S,E,x6,y3,R,x5,Z,x,s,q,D,G,y6,U,I,C,T,L,B,y1,i,o,g,A,y4,y0,z,r,m,v,H,l,k,Y,y5,x8,J,x7,K,u,j,V,e,x2,M,O,y,(.tuple ⟨[(strOf a),(.int .i64 b)]⟩),(strOf n),(strOf d),(.tuple ⟨[(strOf a),(.int .i64 b)]⟩),(strOf a),(.int .i64 b),(.int .i64 b),(.bool (((b:Int) !=0))),(.bool false),(strOf a),(.bool (!((a:LB)==[49]))),(.bool (!((a:LB)==[49]))),y2,N,P,F,f] c (EE SS al Q)))
theorem Dh{neg:Bool}{p:Addr}{x3 x4 x9 y2 y4 y x7 M y9 z5 x6 y8 y6 z q m L O z8 y1 T H y0 X D z3 f l d C z6 z2 B o k x P j i y5 z7 z1 U z0 W u g y3 a y7 Y x2 A x8 r K R G n E I V F J S z4 Z x5 N c:Value}(hx:vy s t neg b p (fI [1,1,1,1,1,1,1] al.body) v w x3 x4 x9 y2 y4 y x7 M y9 z5 x6 y8 y6 z q m L O z8 y1 T H y0 X D z3 f l d C z6 z2 B o k x P j i y5 z7 z1 U z0 W u g y3 a y7 Y x2 A x8 r K R G n E I V F J S z4 Z x5 N c h Q):TT SS al [1,1,1,1,1,1] [v,w,(.pointer (some p)),x3,x4,(.bool neg),(strOf s),(strOf t),(.bool b),x9,y2,y4,y,x7,M,y9,z5,x6,y8,y6,z,q,m,L,O,z8,y1,T,H,y0,X,D,z3,f,l,d,C,z6,z2,B,o,k,x,P,j,i,y5,z7,z1,U,z0,W,u,g,y3,a,y7,Y,x2,A,x8,r,K,R,G,n,E,I,V,F,J,S,z4,Z,x5,N,c] h (EE SS al Q):=by
 have e:∀cc,vy s t neg b p cc v w x3 x4 x9 y2 y4 y x7 M y9 z5 x6 y8 y6 z q m L O z8 y1 T H y0 X D z3 f l d C z6 z2 B o k x P j i y5 z7 z1 U z0 W u g y3 a y7 Y x2 A x8 r K R G n E I V F J S z4 Z x5 N c h Q=wpS SS al.nm al.ms [1,1,1,1,1,1] (setAt [1] cc (fI [1,1,1,1,1,1] al.body)) [v,w,(.pointer (some p)),x3,x4,(.bool neg),(strOf s),(strOf t),(.bool b),x9,y2,y4,y,x7,M,y9,z5,x6,y8,y6,z,q,m,L,O,z8,y1,T,H,y0,X,D,z3,f,l,d,C,z6,z2,B,o,k,x,P,j,i,y5,z7,z1,U,z0,W,u,g,y3,a,y7,Y,x2,A,x8,r,K,R,G,n,E,I,V,F,J,S,z4,Z,x5,N,c] h (EE SS al Q):=λcc=>by kernel_rfl
 have e:=e (fI [1,1,1,1,1,1,1] al.body);have ec:(fI [1,1,1,1,1,1,1] al.body)=fI [1] (fI [1,1,1,1,1,1] al.body):=by kernel_rfl
 have es:setAt [1] (fI [1,1,1,1,1,1,1] al.body) (fI [1,1,1,1,1,1] al.body)=fI [1,1,1,1,1,1] al.body:=by rw[ec,iS]
 rw[es]at e;exact ai hx e
theorem Di{neg r:Bool}{p:Addr}{x3 x4 x9 y3 y5 z x8 N z0 z6 x7 y9 y7 A q m M P z9 y2 U I y1 Y E z4 f l e D z7 z3 C o k y R j i y6 z8 z2 V z1 X x g y4 c y8 Z x5 B y0 u L S H n F J W G K T z5 x2 x6 O d:Value}(hx:xA (bh SS.P 155 [(0,(.bool neg)),(1,(strOf s)),(2,(strOf t))]) λb=>xU (ah SS.P 155 (.pointer (some p)) (.agg ⟨b⟩) h) h λ_ a=>dY SS [((.pointer (some p)),some 155),((.bool true),none)] a Q):TT SS al [1,1,1,1,1,1,1] [v,w,(.pointer (some p)),x3,x4,(.bool neg),(strOf s),(strOf t),(.bool r),x9,y3,y5,z,x8,N,z0,z6,x7,y9,y7,A,q,m,M,P,z9,y2,U,I,y1,Y,E,z4,f,l,e,D,z7,z3,C,o,k,y,R,j,i,y6,z8,z2,V,z1,X,x,g,y4,c,y8,Z,x5,B,y0,u,L,S,H,n,F,J,W,G,K,T,z5,x2,x6,O,d] h (EE SS al Q):=ai hx
noncomputable def Mr:FD:=cA Tryz.f109 []
theorem JZ(l:LB)(h:ae)(Q:VH)(e:FW SS 145 [(strOf l)] h λc d=>∃b:LV,∃a:Bool,c=(.tuple ⟨[(.agg ⟨b⟩),(.bool a)]⟩)/\Q (.bool a) d):FW SS 109 [(strOf l)] h Q:=cN Mr Tryz.func109 (ai e)
noncomputable def Qr:FD:=cA Tryz.f141 []
theorem Mq(p:Bool)(l:LB)(q:Bool)(m:LB)(h:ae)(Q:VH)(k:au (p==q) (FW SS 168 [(strOf l),(strOf m)] h λf g=>∃e:LB,∃d:Int,f=(.tuple ⟨[(strOf e),(.int .i64 d)]⟩)/\FW SS 142 [(strOf e),(.int .i64 d)] g λb c=>yS b λa=>Q (.tuple ⟨[(.bool p),(strOf a)]⟩) c) (FW SS 169 [(strOf l),(strOf m)] h λi j=>yI .i64 i λh=>au (decide ((h:Int)<0)) (FW SS 170 [(strOf m),(strOf l)] j λf g=>∃e:LB,∃d:Int,f=(.tuple ⟨[(strOf e),(.int .i64 d)]⟩)/\FW SS 142 [(strOf e),(.int .i64 d)] g λb c=>yS b λa=>Q (.tuple ⟨[(.bool q),(strOf a)]⟩) c) (FW SS 170 [(strOf l),(strOf m)] j λf g=>∃e:LB,∃d:Int,f=(.tuple ⟨[(strOf e),(.int .i64 d)]⟩)/\FW SS 142 [(strOf e),(.int .i64 d)] g λb c=>yS b λa=>Q (.tuple ⟨[(.bool p),(strOf a)]⟩) c))):FW SS 141 [(.bool p),(strOf l),(.bool q),(strOf m)] h Q:=cN Qr Tryz.func141 (ai k)
noncomputable def Ul:FD:=cA Tryz.f149 []
theorem Qk(l m:LB)(h:ae)(Q:VH)(N:FW SS 145 [(strOf l)] h λP D=>∃F:LV,∃H:Bool,P=(.tuple ⟨[(.agg ⟨F⟩),(.bool H)]⟩)/\xN (bq SS.P 155) D λ_ I=>xU (ah SS.P 155 (pA (D.next)) (.agg ⟨F⟩) I) I λ_ M=>FW SS 145 [(strOf m)] M λO C=>∃J:LV,∃G:Bool,O=(.tuple ⟨[(.agg ⟨J⟩),(.bool G)]⟩)/\xN (bq SS.P 155) C λ_ K=>xU (ah SS.P 155 (pA (C.next)) (.agg ⟨J⟩) K) K λ_ B=>au (!H) (Q (.int .i64 0) B) (au (!G) (Q (.int .i64 0) B) (fP 155 (pA (D.next)) 0 λE=>lB (room B 27) E λA=>fP 155 (pA (D.next)) 1 λR=>lS (room B 27) R λL=>fP 155 (pA (C.next)) 2 λz=>lS (room B 27) z λy=>FW SS 143 [(strOf L),(strOf y)] (room B 27) λw x=>∃v:LB,∃u:Int,w=(.tuple ⟨[(strOf v),(.int .i64 u)]⟩)/\FW SS 142 [(strOf v),(.int .i64 u)] x λs t=>yS s λr=>fP 155 (pA (C.next)) 0 λq=>lB t q λp=>fP 155 (pA (C.next)) 1 λo=>lS t o λn=>fP 155 (pA (D.next)) 2 λm=>lS t m λl=>FW SS 143 [(strOf n),(strOf l)] t λj k=>∃i:LB,∃h:Int,j=(.tuple ⟨[(strOf i),(.int .i64 h)]⟩)/\FW SS 142 [(strOf i),(.int .i64 h)] k λf g=>yS f λe=>FW SS 141 [(.bool A),(strOf r),(.bool (!p)),(strOf e)] g λc d=>∃b:Bool,∃a:LB,c=(.tuple ⟨[(.bool b),(strOf a)]⟩)/\(aj SS.P 4 x (.pointer (some E))=some (.bool A)/\dC 4 (.bool A) (.bool A)=true)/\(aj SS.P 4 t (.pointer (some E))=some (.bool A)/\dC 4 (.bool A) (.bool A)=true)/\(aj SS.P 4 k (.pointer (some E))=some (.bool A)/\dC 4 (.bool A) (.bool A)=true)/\(aj SS.P 4 g (.pointer (some E))=some (.bool A)/\dC 4 (.bool A) (.bool A)=true)/\(aj SS.P 4 (room B 27) (.pointer (some q))=some (.bool p)/\dC 4 (.bool p) (.bool p)=true)/\(aj SS.P 4 x (.pointer (some q))=some (.bool p)/\dC 4 (.bool p) (.bool p)=true)/\(aj SS.P 4 k (.pointer (some q))=some (.bool p)/\dC 4 (.bool p) (.bool p)=true)/\(aj SS.P 4 g (.pointer (some q))=some (.bool p)/\dC 4 (.bool p) (.bool p)=true)/\(aj SS.P 9 (room B 27) (.pointer (some o))=some (strOf n)/\dC 4 (strOf n) (strOf n)=true)/\(aj SS.P 9 x (.pointer (some o))=some (strOf n)/\dC 4 (strOf n) (strOf n)=true)/\(aj SS.P 9 (room B 27) (.pointer (some m))=some (strOf l)/\dC 4 (strOf l) (strOf l)=true)/\(aj SS.P 9 x (.pointer (some m))=some (strOf l)/\dC 4 (strOf l) (strOf l)=true)/\au ((a:LB)==[48]) (Q (.int .i64 0) d) (au b (Q (.int .i64 (-1)) d) (Q (.int .i64 1) d))))):FW SS 149 [(strOf l),(strOf m)] h Q:=cN Ul Tryz.func149 (ai N)
noncomputable def S9:FD:=cA Tryz.f204 []
theorem Pd(l m:LB)(h:ae)(Q:VH)(b:au (decide ((((l:LB).length:Int):Int)>=((m:LB).length:Int))) (xS (bP SS.P 9 (strOf l) none (some (.int .i64 ((m:LB).length:Int))) none h) λa=>Q (.bool ((a:LB)==m)) h) (Q (.bool false) h)):FW SS 204 [(strOf l),(strOf m)] h Q:=cN S9 Tryz.func204 (ai b)
noncomputable def gG:FD:=cA Tryz.f171 [([1,1,0,1,0,0],[0,22,23])]
abbrev mE(l:LB)(i:Int):LV:=[(strOf l),(.int .i64 (l.length:Int)),(.int .i64 i)]
theorem AD(l:LB)(h:ae)(Q:VH)(b:au ((l:LB)==[]) (Q (.bool false) h) (au (decide ((((l:LB).length:Int):Int)>1000)) (Q (.bool false) h) (au (decide ((((l:LB).length:Int):Int)>1)) (xI .u8 (bM SS.P 9 (strOf l) (.int .i64 0)) λa=>au (((a:Int)==48)) (Q (.bool false) h) (LL SS gG [1,1,0,1,0,0] [(strOf l),(.int .i64 ((l:LB).length:Int)),(.int .i64 0)] h (KK SS gG [1,1,0,1,0] [] (EE SS gG Q)))) (LL SS gG [1,1,0,1,0,0] [(strOf l),(.int .i64 ((l:LB).length:Int)),(.int .i64 0)] h (KK SS gG [1,1,0,1,0] [] (EE SS gG Q)))))):FW SS 171 [(strOf l)] h Q:=cN gG Tryz.func171 (ai b)
theorem uX(l:LB)  (d:Nat->Int->ae->Prop) (Q:VH) (step:∀(c:Nat)(i:Int)(f:Nat->Value)(h:ae),d c i h->au (decide ((i:Int)<(l.length:Int))) (xI .u8 (bM SS.P 9 (strOf l) (.int .i64 i)) λb=>au (decide ((b:Int)<48)) (Q (.bool false) h) (xI .u8 (bM SS.P 9 (strOf l) (.int .i64 i)) λa=>au (decide ((a:Int)>57)) (Q (.bool false) h) (aB (eR (mE l) d) c [(strOf l),(.int .i64 (l.length:Int)),(.int .i64 (wrap .i64 (i+1)))] h))) (Q (.bool true) h)) (c:Nat) {i:Int} {h:ae} (e:d c i h):LL SS gG [1,1,0,1,0,0] (mE l i) h (KK SS gG [1,1,0,1,0] [] (EE SS gG Q)):=
 cY (mE l) d (λc i f h e=>ai (step c i f h e)) c e
noncomputable def gH:FD:=cA Tryz.f136 [([1,1,0,1,0,0],[0,3])]
abbrev hH(l:LB)(i:Int):LV:=[(strOf l),(.int .i64 i)]
theorem AI(l:LB)(h:ae)(Q:VH)(b:au (decide ((((l:LB).length:Int):Int)<1)) (Q (.bool false) h) (au (decide ((((l:LB).length:Int):Int)>1000)) (Q (.bool false) h) (xI .u8 (bM SS.P 9 (strOf l) (.int .i64 0)) λa=>au (((a:Int)==48)) (au (decide ((((l:LB).length:Int):Int)>1)) (Q (.bool false) h) (LL SS gH [1,1,0,1,0,0] (hH l 0) h (KK SS gH [1,1,0,1,0] [] (EE SS gH Q)))) (LL SS gH [1,1,0,1,0,0] (hH l 0) h (KK SS gH [1,1,0,1,0] [] (EE SS gH Q)))))):FW SS 136 [(strOf l)] h Q:=cN gH Tryz.func136 (ai b)
theorem uZ(l:LB)  (d:Nat->Int->ae->Prop) (Q:VH) (step:∀(c:Nat)(i:Int)(f:Nat->Value)(h:ae),d c i h->au (decide ((i:Int)<((l:LB).length:Int))) (xI .u8 (bM SS.P 9 (strOf l) (.int .i64 i)) λb=>au (decide ((b:Int)<48)) (Q (.bool false) h) (xI .u8 (bM SS.P 9 (strOf l) (.int .i64 i)) λa=>au (decide ((a:Int)>57)) (Q (.bool false) h) (aB (eR (hH l) d) c [(strOf l),(.int .i64 (wrap .i64 (i+1)))] h))) (Q (.bool true) h)) (c:Nat) {i:Int} {h:ae} (e:d c i h):LL SS gH [1,1,0,1,0,0] (hH l i) h (KK SS gH [1,1,0,1,0] [] (EE SS gH Q)):=
 cY (hH l) d (λc i f h e=>ai (step c i f h e)) c e
noncomputable def iE:FD:=cA Tryz.f154 [([1,1,0,1,0,0],[0,1,5])]
abbrev iF(a b:LB)(i:Int):LV:=[(strOf a),(strOf b),(.int .i64 i)]
theorem EC(a b:LB)(h:ae)(Q:VH)(c:au (((((a:LB).length:Int):Int) !=((b:LB).length:Int))) (au (decide ((((a:LB).length:Int):Int)<((b:LB).length:Int))) (Q (.int .i64 (-1)) h) (Q (.int .i64 1) h)) (LL SS iE [1,1,0,1,0,0] (iF a b 0) h (KK SS iE [1,1,0,1,0] [] (EE SS iE Q)))):FW SS 154 [(strOf a),(strOf b)] h Q:=cN iE Tryz.func154 (ai c)
theorem sR(a b:LB)  (g:Nat->Int->ae->Prop) (Q:VH) (step:∀(f:Nat)(i:Int)(k:Nat->Value)(h:ae),g f i h->au (decide ((i:Int)<((a:LB).length:Int))) (xI .u8 (bM SS.P 9 (strOf a) (.int .i64 i)) λe=>xI .u8 (bM SS.P 9 (strOf b) (.int .i64 i)) λd=>au (((e:Int) !=d)) (xI .u8 (bM SS.P 9 (strOf a) (.int .i64 i)) λc=>xI .u8 (bM SS.P 9 (strOf b) (.int .i64 i)) λa=>au (decide ((c:Int)<a)) (Q (.int .i64 (-1)) (room (room h 7) 7)) (Q (.int .i64 1) (room (room h 7) 7))) (aB (eR (iF a b) g) f [(strOf a),(strOf b),(.int .i64 (wrap .i64 (i+1)))] (room h 7))) (Q (.int .i64 0) h)) (f:Nat) {i:Int} {h:ae} (j:g f i h):LL SS iE [1,1,0,1,0,0] (iF a b i) h (KK SS iE [1,1,0,1,0] [] (EE SS iE Q)):=
 cY (iF a b) g (λf i k h j=>ai (step f i k h j)) f j
noncomputable def X7:FD:=cA Tryz.f151 []
theorem Uw(a:OA)(n c:Nat)(i:Int)(h:ae)(Q:VH)(d:au (decide ((i:Int)<(n:Int))) (iP 22 (.slice a n c) (.int .i64 i) λb=>lI h b λa=>Q (.int .i64 a) h) (Q (.int .i64 0) h)):FW SS 151 [(.slice a n c),(.int .i64 i)] h Q:=cN X7 Tryz.func151 (ai d)
noncomputable def jK:FD:=cA Tryz.f150 [([1,1,0,1,0,0],[0,3,4])]
abbrev l4(l:LB)(i:Int)(a:OA)(n c:Nat):LV:=[(strOf l),(.slice a n c),(.int .i64 i)]
theorem Hy(l:LB)(h:ae)(Q:VH)(a:LL SS jK [1,1,0,1,0,0] [(strOf l),nA,(.int .i64 (wrap .i64 (((l:LB).length:Int)-1)))] h (KK SS jK [1,1,0,1,0] [] (EE SS jK Q))):FW SS 150 [(strOf l)] h Q:=cN jK Tryz.func150 (ai a)
theorem tH(l:LB)  (m:Nat->Int->OA->Nat->Nat->ae->Prop) (Q:VH) (step:∀(k:Nat)(i:Int)(a:OA)(n c:Nat)(p:Nat->Value)(h:ae),m k i a n c h->au (decide ((i:Int)>=0)) (xI .u8 (bM SS.P 9 (strOf l) (.int .i64 i)) λj=>xR (aF SS.P 22 1 [(0,(.int .i64 (wrap .i64 (wrap .u8 (j-48)))))]) h λ_ e f g=>xE (bF SS.P 22 22 (.slice a n c) (sA (h.next) e f) g) g λa b c _ d=>aB (YY (l4 l) m) k [(strOf l),(.slice a b c),(.int .i64 (wrap .i64 (i-1)))] d) (Q (.slice a n c) h)) (k:Nat) {i:Int} {a:OA} {n c:Nat} {h:ae} (o:m k i a n c h):LL SS jK [1,1,0,1,0,0] (l4 l i a n c) h (KK SS jK [1,1,0,1,0] [] (EE SS jK Q)):=
 UG (l4 l) m (λk i a n c p h o=>ai (step k i a n c p h o)) k o
variable{i:Nat}{a:Option Addr}{n:Nat}{x:List Nat}
theorem Ys:SS.P.underlying 9=some .string:=by kernel_rfl
theorem A3(l:List UInt8){h:ae}{i:Int}(b:0<=i)(a:i<l.length):bM SS.P 9 (strOf l) (.int .i64 i)=some (.int .u8 ((l.getD i.toNat 0).toNat:Nat)):=ot Ys l _ b a
theorem SL{c:UInt8}(a:¬(c.toNat:Int)<48)(b:¬(c.toNat:Int)>57):bN c=true:=by
 unfold bN;simp;omega
theorem Hb{c:UInt8}(h:(c.toNat:Int)<48\/(c.toNat:Int)>57):bN c=false:=by
 unfold bN;simp;omega
theorem vn(b:i<s.length)(c:(s.take i).all bN=true)(a:bN (s.getD i 0)=true):(s.take (i+1)).all bN=true:=by
 rw[List.take_succ_eq_append_getElem b,List.all_append,c];rw[gD,gE b]at a;simpa using a
theorem ui(b:i<s.length)(a:bN (s.getD i 0)=false):s.all bN=false:=by
 rw[gD,gE b]at a;exact List.all_eq_false.2 ⟨s[i],getElem_mem b,by simpa using a⟩
theorem DL(h:1000<s.length):Num.valid s=false:=by
 unfold Num.valid;rw[decide_eq_false (by omega:¬s.length<=1000)];simp
theorem DM(h:1<s.length)(b:s.getD 0 0=48):Num.valid s=false:=by
 unfold Num.valid
 cases s with
 |nil=>rfl
 |cons a s=>
  have b:a=48:=b;subst b;rw[decide_eq_true h];simp
theorem uM(e:s≠[])(c:s.length<=1000)(d:1<s.length->s.getD 0 0≠48):Num.valid s=s.all bN:=by
 unfold Num.valid
 cases s with
 |nil=>exact absurd rfl e
 |cons a s=>
  rw[decide_eq_true c];by_cases h:1<(a::s).length
  ·have b:a≠48:=d h;rw[decide_eq_true h];simp[b]
  ·rw[decide_eq_false h];simp
theorem Gb{c:UInt8}:((c.toNat:Int)==48)=true↔c=48:=by
 rw[beq_iff_eq];refine⟨λh=>UInt8.toNat_inj.1 ?_,λh=>by rw[h];rfl⟩;have a:(48:UInt8).toNat=48:=rfl;omega
theorem dE(l:List UInt8)(h:ae):FW SS 171 [strOf l] h (λv o=>v = .bool (Num.valid l)/\o=h):=by
 by_cases j:l.length<=1000
 case neg=>
  refine AD l h _ (aa (λa=>?_) (λa=>aa (λd=>?_) (λd=>?_)))
  ·obtain rfl:l=[]:=by simpa using a
   exact⟨rfl,rfl⟩
  ·exact⟨by rw[DL (by omega)],rfl⟩
  ·have:=dF d;omega
 have L:=λ(n:Num.valid l=l.all bN)=>uX l (λm i g=>0<=i/\i<=l.length/\m=l.length-i.toNat/\(l.take i.toNat).all bN=true/\g=h) (λv o=>v = .bool (Num.valid l)/\o=h) (by
  intro m i;intros;rename_i g t;obtain⟨a,d,k,b,rfl⟩:=t;refine aa (λc=>?_) (λc=>?_)
  ·have c:=dT c;have f:i.toNat<l.length:=by omega
   refine⟨_,A3 (h:=g) l a c,aa (λq=>?_) (λq=>⟨_,A3 (h:=g) l a c,aa (λp=>?_) (λp=>?_)⟩)⟩
   ·exact⟨by rw[n,ui f (Hb (.inl (dT q)))],rfl⟩
   ·exact⟨by rw[n,ui f (Hb (.inr (dT p)))],rfl⟩
   ·have s:wrap .i64 (i+1)=i+1:=aD (by omega) (by omega);refine bY (m-1) (by omega) ?_;rw[s];refine⟨by omega,by omega,by omega,?_,rfl⟩;rw[show(i+1).toNat=i.toNat+1 by omega];exact vn f b (SL (dF q) (dF p))
  ·have c:=dF c;refine⟨?_,rfl⟩;rw[n,<-b,take_of_length_le (by omega)])
 refine AD l h _ (aa (λa=>?_) (λa=>aa (λd=>?_) (λd=>?_)))
 ·obtain rfl:l=[]:=by simpa using a
  exact⟨rfl,rfl⟩
 ·have:=dT d;omega
 ·have a:l≠[]:=by simpa using a
  have r:=List.length_pos_iff.2 a;refine aa (λk=>⟨_,A3 (h:=h) l (by omega) (by omega),aa (λb=>?_) (λb=>?_)⟩) (λk=>?_)
  ·exact⟨by rw[DM (by have:=dT k;omega) (Gb.1 b)],rfl⟩
  ·exact L (uM a j λ_ e=>by have b:(((l.getD 0 0).toNat:Int)==48)=false:=b;rw[Gb.2 e]at b;cases b) l.length ⟨by omega,by omega,by simp,by simp,rfl⟩
  ·exact L (uM a j λe=>by have:=dF k;omega) l.length ⟨by omega,by omega,by simp,by simp,rfl⟩
theorem dn(l:List UInt8)(h:ae):FW SS 136 [strOf l] h (λv o=>v = .bool (Num.valid l)/\o=h):=by
 by_cases j:l.length<=1000
 case neg=>
  refine AI l h _ (aa (λa=>?_) (λa=>aa (λd=>?_) (λd=>?_)))
  ·have a:=dT a;omega
  ·exact⟨by rw[DL (by omega)],rfl⟩
  ·have:=dF d;omega
 have L:=λ(n:Num.valid l=l.all bN)=>uZ l (λm i g=>0<=i/\i<=l.length/\m=l.length-i.toNat/\(l.take i.toNat).all bN=true/\g=h) (λv o=>v = .bool (Num.valid l)/\o=h) (by
  intro m i;intros;rename_i g t;obtain⟨a,d,k,b,rfl⟩:=t;refine aa (λc=>?_) (λc=>?_)
  ·have c:=dT c;have f:i.toNat<l.length:=by omega
   refine⟨_,A3 (h:=g) l a c,aa (λq=>?_) (λq=>⟨_,A3 (h:=g) l a c,aa (λp=>?_) (λp=>?_)⟩)⟩
   ·exact⟨by rw[n,ui f (Hb (.inl (dT q)))],rfl⟩
   ·exact⟨by rw[n,ui f (Hb (.inr (dT p)))],rfl⟩
   ·have s:wrap .i64 (i+1)=i+1:=aD (by omega) (by omega);refine bY (m-1) (by omega) ?_;rw[s];refine⟨by omega,by omega,by omega,?_,rfl⟩;rw[show(i+1).toNat=i.toNat+1 by omega];exact vn f b (SL (dF q) (dF p))
  ·have c:=dF c;refine⟨?_,rfl⟩;rw[n,<-b,take_of_length_le (by omega)])
 refine AI l h _ (aa (λa=>?_) (λa=>aa (λd=>?_) (λd=>?_)))
 ·have a:=dT a;obtain rfl:l=[]:=List.eq_nil_of_length_eq_zero (by omega);exact⟨rfl,rfl⟩
 ·have:=dT d;omega
 ·have a:=dF a;have a:l≠[]:=λe=>by subst e;simp at a
  have r:=List.length_pos_iff.2 a;refine⟨_,A3 (h:=h) l (by omega) (by omega),aa (λb=>aa (λk=>?_) (λk=>?_)) (λb=>?_)⟩
  ·exact⟨by rw[DM (by have:=dT k;omega) (Gb.1 b)],rfl⟩
  ·exact L (uM a j λe=>by have:=dF k;omega) l.length ⟨by omega,by omega,by simp,by simp,rfl⟩
  ·exact L (uM a j λ_ e=>by have b:(((l.getD 0 0).toNat:Int)==48)=false:=b;rw[Gb.2 e]at b;cases b) l.length ⟨by omega,by omega,by simp,by simp,rfl⟩
theorem L4{a b:Nat}(h:((a:Int) !=b)=true):a≠b:=by
 intro e;subst e;simp at h
theorem Lu{a b:Nat}(h:((a:Int) !=b)=false):a=b:=by
 by_cases e:a=b
 ·exact e
 ·exfalso;have:(a:Int)≠b:=by omega
  simp[this]at h
theorem qq(m n:Nat)(y:(ag m).length<9223372036854775807)(x:(ag n).length<9223372036854775807)(h:ae)(w:Wf h):FW SS 154 [strOf (ag m),strOf (ag n)] h (λv q=>v = .int .i64 (eF m n)/\Ok h q):=by
 have L:=λ(s:(ag m).length=(ag n).length)=>sR (ag m) (ag n) (λk i g=>0<=i/\i<=(ag m).length/\k=(ag m).length-i.toNat/\(ag m).take i.toNat=(ag n).take i.toNat/\Ok h g) (λv q=>v = .int .i64 (eF m n)/\Ok h q) (by
  intro k i;intros;rename_i g u;obtain⟨a,f,z,e,j⟩:=u;refine aa (λb=>?_) (λb=>?_)
  ·have b:=dT b;have r:i.toNat<(ag m).length:=by omega
   have p:i.toNat<(ag n).length:=by omega
   have l:(ag m)[i.toNat]?=some ((ag m).getD i.toNat 0):=by rw[gD,gE r];rfl
   have o:(ag n)[i.toNat]?=some ((ag n).getD i.toNat 0):=by rw[gD,gE p];rfl
   refine⟨_,A3 (h:=g) _ a b,_,A3 (h:=g) _ a (by omega),aa (λc=>?_) (λc=>?_)⟩
   ·refine⟨_,A3 (h:=g) _ a b,_,A3 (h:=g) _ a (by omega),aa (λd=>?_) (λd=>?_)⟩
    ·have d:=dT d;have:=oH (cP n) (cP m) s e l o (UInt8.lt_iff_toNat_lt.2 (by omega));rw[bu,bu]at this;exact⟨by rw[lk this],(j.room 7).room 7⟩
    ·have d:=dF d;have c:=L4 c;have:=oH (cP m) (cP n) s.symm e.symm o l (UInt8.lt_iff_toNat_lt.2 (by omega));rw[bu,bu]at this;exact⟨by rw[lj this],(j.room 7).room 7⟩
   ·have c:=Lu c;have t:wrap .i64 (i+1)=i+1:=aD (by omega) (by omega);refine bY (k-1) (by omega) ?_;rw[t];refine⟨by omega,by omega,by omega,?_,j.room 7⟩;rw[show(i+1).toNat=i.toNat+1 by omega,List.take_add_one,List.take_add_one,e,l,o,UInt8.toNat_inj.1 c]
  ·have b:=dF b;rw[take_of_length_le (by omega),take_of_length_le (by omega)]at e;exact⟨by rw[ta e,qx],j⟩)
 refine EC _ _ h _ (aa (λa=>aa (λf=>?_) (λf=>?_)) (λa=>?_))
 ·exact⟨by rw[lk (lT (by have:=dT f;omega))],Ok.refl w⟩
 ·have a:=L4 a;exact⟨by rw[lj (lT (by have:=dF f;omega))],Ok.refl w⟩
 ·have a:=Lu a;exact L a (ag m).length ⟨by omega,by omega,by simp,by simp,Ok.refl w⟩
def iv(d:Nat):Value:= .int .i64 (d:Int)
theorem tO:SS.P.underlying 22=some (.slice 3):=by kernel_rfl
theorem VY:aE SS.P 3=some 1:=by kernel_rfl
theorem HO:SS.P.underlying 3=some (.int .i64):=by kernel_rfl
theorem GD:Go.Ab.isAgg SS.P 3=false:=by kernel_rfl
noncomputable def re3:TypeInfo:=(eP SS.P 3).getD default
theorem Us:eP SS.P 3=some re3:=by kernel_rfl
theorem J1:re3.size=1:=by kernel_rfl
theorem FI:re3.bytes=8:=by kernel_rfl
theorem tl(l:List Nat)(i:Nat)(h:i<l.length):(l.map iv).getD i undef = .int .i64 (l.getD i 0:Nat):=by
 simp[gD,getElem?_map,gE h,iv]
theorem tG{c:Nat}(r:Rd h 3 (.slice a n c) (x.map iv))(i:Nat):FW SS 151 [.slice a n c,.int .i64 (i:Int)] h (λv g=>v = .int .i64 (x.getD i 0:Nat)/\g=h):=by
 have e:=r.len;rw[lM]at e;refine Uw a n c i h _ (aa (λb=>?_) (λb=>?_))
 ·have b:=dT b;obtain⟨p,f,d⟩:=r.at_ tO VY HO GD (k:= .i64) (i:=(i:Int)) (by omega) (by rw[lM];omega);rw[Int.toNat_natCast,tl x i (by omega)]at d;exact⟨p,f,_,d,rfl,rfl⟩
 ·have b:=dF b;refine⟨?_,rfl⟩;rw[gD,List.getElem?_eq_none (by omega)];rfl
noncomputable def mG:FD:=cA Tryz.f155 [([1,1,1,0,1,0,0],[0,1,5,6,7])]
abbrev iM(a:OA)(n c:Nat)(b:OA)(m d:Nat)(k cc:Nat)(r:OA)(e f:Nat):LV:=[(.slice a n c),(.slice b m d),(.slice r e f),(iA cc),(iA k)]
theorem Mx(a:OA)(n c:Nat)(b:OA)(m d:Nat)(h:ae)(Q:VH)(e:LL SS mG [1,1,1,0,1,0,0] (iM a n c b m d 0 0 none 0 0) h (KK SS mG [1,1,1,0,1,0] [] (EE SS mG Q))):FW SS 155 [(.slice a n c),(.slice b m d)] h Q:=cN mG Tryz.func155 (ai e)
theorem wv(a:OA)(n c:Nat)(b:OA)(m d:Nat)  (x:Nat->Nat->Nat->OA->Nat->Nat->ae->Prop) (Q:VH) (step:∀(y:Nat)(k cc:Nat)(r:OA)(v w:Nat)(A:Nat->Value)(h:ae),x y k cc r v w h->au (decide (((k:Int):Int)<(n:Int))) (FW SS 151 [(.slice a n c),(iA k)] h λt u=>yI .i64 t λs=>FW SS 151 [(.slice b m d),(iA k)] u λp q=>yI .i64 p λo=>au (decide ((wrap .i64 (wrap .i64 (s-o)-(cc:Int)):Int)<0)) (xR (aF SS.P 22 1 [(0,(.int .i64 (wrap .i64 (wrap .i64 (wrap .i64 (s-o)-(cc:Int))+10))))]) q λ_ i j l=>xE (bF SS.P 22 22 (.slice r v w) (sA (q.next) i j) l) l λe f g _ h=>aB (BP (iM a n c b m d) x) y [(.slice a n c),(.slice b m d),(.slice e f g),(.int .i64 1),(.int .i64 (wrap .i64 ((k:Int)+1)))] h) (xR (aF SS.P 22 1 [(0,(.int .i64 (wrap .i64 (wrap .i64 (s-o)-(cc:Int)))))]) q λ_ i j l=>xE (bF SS.P 22 22 (.slice r v w) (sA (q.next) i j) l) l λe f g _ h=>aB (BP (iM a n c b m d) x) y [(.slice a n c),(.slice b m d),(.slice e f g),(.int .i64 0),(.int .i64 (wrap .i64 ((k:Int)+1)))] h)) (Q (.slice r v w) h)) (y:Nat) {k cc:Nat} {r:OA} {v w:Nat} {h:ae} (z:x y k cc r v w h):LL SS mG [1,1,1,0,1,0,0] (iM a n c b m d k cc r v w) h (KK SS mG [1,1,1,0,1,0] [] (EE SS mG Q)):=
 FP (iM a n c b m d) x (λy k cc r v w A h z=>ai (step y k cc r v w A h z)) y z
noncomputable def eC:FD:=cA Tryz.f153 [([1,1,0,0,0],[0,3]),([1,1,1,1,0,1,0,0],[0,4,5])]
abbrev nB(a:OA)(n c:Nat)(z:Int):LV:=[(.slice a n c),(.int .i64 z)]
abbrev iN(a:OA)(n c:Nat)(i:Int)(r:OA)(b d:Nat):LV:=[(.slice a n c),(.slice r b d),(.int .i64 i)]
theorem My(a:OA)(n c:Nat)(h:ae)(Q:VH)(b:LL SS eC [1,1,0,0,0] [(.slice a n c),(iA n)] h (KK SS eC [1,1,0,0] [] (EE SS eC Q))):FW SS 153 [(.slice a n c)] h Q:=cN eC Tryz.func153 (ai b)
theorem wz(a:OA)(n c:Nat)  (f:Nat->Int->ae->Prop) (Q:VH) (step:∀(e:Nat)(z:Int)(i:Nat->Value)(h:ae),f e z h->au (decide ((z:Int)>1)) (iP 22 (.slice a n c) (.int .i64 (wrap .i64 (z-1))) λd=>lI h d λb=>au (((b:Int)==0)) (aB (eR (nB a n c) f) e [(.slice a n c),(.int .i64 (wrap .i64 (z-1)))] h) (LL SS eC [1,1,1,1,0,1,0,0] (iN a n c (wrap .i64 (z-1)) none 0 0) h (KK SS eC [1,1,1,1,0,1,0] [] (EE SS eC Q)))) (LL SS eC [1,1,1,1,0,1,0,0] (iN a n c (wrap .i64 (z-1)) none 0 0) h (KK SS eC [1,1,1,1,0,1,0] [] (EE SS eC Q)))) (e:Nat) {z:Int} {h:ae} (g:f e z h):LL SS eC [1,1,0,0,0] (nB a n c z) h (KK SS eC [1,1,0,0] [] (EE SS eC Q)):=
 cY (nB a n c) f (λe z i h g=>ai (step e z i h g)) e g
theorem wA(a:OA)(n c:Nat)  (s:Nat->Int->OA->Nat->Nat->ae->Prop) (Q:VH) (step:∀(q:Nat)(i:Int)(r:OA)(o p:Nat)(u:Nat->Value)(h:ae),s q i r o p h->au (decide ((i:Int)>=0)) (iP 22 (.slice a n c) (.int .i64 i) λm=>lI h m λl=>xR (aF SS.P 172 1 [(0,(.int .u8 (wrap .u8 (wrap .i64 (48+l)))))]) h λ_ g j k=>xE (bF SS.P 172 172 (.slice r o p) (sA (h.next) g j) k) k λb d e _ f=>aB (YY (iN a n c) s) q [(.slice a n c),(.slice b d e),(.int .i64 (wrap .i64 (i-1)))] f) (au ((((o:Int):Int)==0)) (Q (strOf [48]) h) (xS (Bf SS.P 172 9 (.slice r o p) h) λa=>Q (strOf a) h))) (q:Nat) {i:Int} {r:OA} {o p:Nat} {h:ae} (t:s q i r o p h):LL SS eC [1,1,1,1,0,1,0,0] (iN a n c i r o p) h (KK SS eC [1,1,1,1,0,1,0] [] (EE SS eC Q)):=
 UG (iN a n c) s (λq i r o p u h t=>ai (step q i r o p u h t)) q t
variable{g:ae}{m:Nat}{y:List Nat}
theorem OX(z:Int):aF SS.P 22 1 [(0,.int .i64 z)]=some (.cells [.int .i64 z] 3 1 true,mh 1 1):=by kernel_rfl
theorem Y7(z:Int):aF SS.P 172 1 [(0,.int .u8 z)]=some (.cells [.int .u8 z] 5 1 true,mh 1 1):=by kernel_rfl
theorem AL:SS.P.underlying 172=some (.slice 5):=by kernel_rfl
theorem un5:SS.P.underlying 5=some (.int .u8):=by kernel_rfl
theorem zz5:aE SS.P 5=some 1:=by kernel_rfl
theorem ag5:Go.Ab.isAgg SS.P 5=false:=by kernel_rfl
noncomputable def re5:TypeInfo:=(eP SS.P 5).getD default
theorem aaC:eP SS.P 5=some re5:=by kernel_rfl
theorem Ut:re5.size=1:=by kernel_rfl
theorem Qu:re5.bytes=1:=by kernel_rfl
theorem Dz(d:Wf g)(e:Ok g h){v:Value}{a:List Value}(o:ei g h 3 v a)(z:Int)(f:a.length<=100000):
  ∃(b:Option Addr)(n c:Nat)(u:dL),bF SS.P 22 22 v (.slice (some ⟨h.next,0,none⟩) 1 1) (h.push (.cells [.int .i64 z] 3 1 true))=some (.slice b n c,u)/\n=a.length+1/\ei g (u.app (h.push (.cells [.int .i64 z] 3 1 true))) 3 (.slice b n c) (a++[.int .i64 z])/\Ok g (u.app (h.push (.cells [.int .i64 z] 3 1 true))):=
 ei.snoc tO Us J1 d e o rfl (by rw[FI];omega) (by omega)
theorem N7(d:Wf g)(e:Ok g h){v:Value}{a:List Value}(o:ei g h 5 v a)(z:Int)(f:a.length<=100000):
  ∃(b:Option Addr)(n c:Nat)(u:dL),bF SS.P 172 172 v (.slice (some ⟨h.next,0,none⟩) 1 1) (h.push (.cells [.int .u8 z] 5 1 true))=some (.slice b n c,u)/\n=a.length+1/\ei g (u.app (h.push (.cells [.int .u8 z] 5 1 true))) 5 (.slice b n c) (a++[.int .u8 z])/\Ok g (u.app (h.push (.cells [.int .u8 z] 5 1 true))):=
 ei.snoc AL aaC Ut d e o rfl (by rw[Qu];omega) (by omega)
theorem O8(c:UInt8)(l:List UInt8):ft (c::l)=ft l++[js c]:=by simp[ft]
theorem Ff(h:i<s.length):s.drop i=s.getD i 0::s.drop (i+1):=by
 rw[gD,gE h,drop_eq_getElem_cons h];rfl
theorem Cl(a:s.all bN=true){i:Nat}(h:i<s.length):bN (s.getD i 0)=true:=by
 rw[gD,gE h];exact all_eq_true.1 a _ (getElem_mem h)
def iW(h:ae)(e:TypeId)(d:List Value):VH:=λv b=>∃a n c,v = .slice a n c/\ei h b e (.slice a n c) d/\Ok h b
theorem r5(l:List UInt8)(C:l.all bN=true)(t:l.length<=100000)(h:ae)(w:Wf h):FW SS 150 [strOf l] h (iW h 3 ((ft l).map iv)):=by
 have L:=tH l (λk i a n c g=> -1<=i/\i<l.length/\k=(i+1).toNat/\ei h g 3 (.slice a n c) ((ft (l.drop (i+1).toNat)).map iv)/\Ok h g) (iW h 3 ((ft l).map iv)) (by
  intro k i a n c;intros;rename_i g y;obtain⟨F,x,E,r,s⟩:=y;refine aa (λf=>?_) (λf=>?_)
  ·have f:=dT f;have j:i.toNat<l.length:=by omega
   have p:=Cl C j;have D:=ll.1 p;refine⟨_,A3 (h:=g) l f x,_,_,_,OX _,?_⟩;obtain⟨b,m,d,u,B,G,o,z⟩:=Dz w s r (wrap .i64 (wrap .u8 ((((l.getD i.toNat 0).toNat:Nat):Int)-48))) (by simp[ft];omega);refine⟨b,m,d,u,B,?_⟩;have e:wrap .i64 (i-1)=i-1:=aD (by omega) (by omega);refine S7 (k-1) (by omega) ?_;rw[e];refine⟨by omega,by omega,by omega,?_,z⟩;have q:wrap .i64 (wrap .u8 ((((l.getD i.toNat 0).toNat:Nat):Int)-48))=((js (l.getD i.toNat 0):Nat):Int):=by
    rw[su (by omega) (by omega),aD (by omega) (by omega)];unfold js;omega
   rw[q]at o;have A:(i-1+1).toNat=i.toNat:=by omega
   have v:(i+1).toNat=i.toNat+1:=by omega
   rw[v]at o;rw[q,A,Ff j,O8,map_append];exact o
  ·have f:=dF f;obtain rfl:i = -1:=by omega
   exact⟨a,n,c,rfl,r,s⟩)
 have e:wrap .i64 ((l.length:Int)-1)=(l.length:Int)-1:=aD (by omega) (by omega);refine Hy l h _ ?_;refine L l.length ⟨by rw[e];omega,by rw[e];omega,by rw[e];omega,?_,Ok.refl w⟩;rw[e,show((l.length:Int)-1+1).toNat=l.length by omega,List.drop_length];exact .inl ⟨rfl,rfl⟩
theorem Dq{b:Option Addr}{c:Nat}(N:Rd h 3 (.slice a n c) (x.map iv))(S:Rd h 3 (.slice b m i) (y.map iv))(R:∀i∈x,i<10)(U:∀i∈y,i<10)(O:x.length<=100000)(w:Wf h):
  FW SS 155 [.slice a n c,.slice b m i] h (iW h 3 ((bk fj x y 0 x.length 0).map iv)):=by
 have W:n=x.length:=by have:=N.len;rwa[lM]at this
 have J:∀k,eG fj x y 0 0 k<=1:=Nh (λp q c _=>by unfold fj;split<;>simp) x y 0 0 (by omega);have L:=wv a n c b m i (λt k cc r z B g=>k<=x.length/\t=x.length-k/\cc=eG fj x y 0 0 k/\ei h g 3 (.slice r z B) ((bk fj x y 0 k 0).map iv)/\Ok h g) (iW h 3 ((bk fj x y 0 x.length 0).map iv)) (by
  intro t k cc r z B;intros;rename_i g T;obtain⟨X,Z,P,F,o⟩:=T;have V:=J k;have hp:=aZ (by omega) R k;have Y:=aZ (by omega) U k;refine aa (λs=>?_) (λs=>?_)
  ·have s:=dT s;refine(tG (N.ok o) k).mono ?_;rintro _ _ ⟨rfl,rfl⟩;refine⟨_,rfl,(tG (S.ok o) k).mono ?_⟩;rintro _ _ ⟨rfl,rfl⟩;refine⟨_,rfl,?_⟩;have M:wrap .i64 (((x.getD k 0:Nat):Int)-((y.getD k 0:Nat):Int))=((x.getD k 0:Nat):Int)-((y.getD k 0:Nat):Int):=aD (by omega) (by omega);have I:wrap .i64 (((x.getD k 0:Nat):Int)-((y.getD k 0:Nat):Int)-(cc:Int))=((x.getD k 0:Nat):Int)-((y.getD k 0:Nat):Int)-(cc:Int):=aD (by omega) (by omega);have K:wrap .i64 ((k:Int)+1)=((k+1:Nat):Int):=by rw[aD (by omega) (by omega)];omega
   dsimp only;rw[M,I,K];have v:(bk fj x y 0 k 0).length=k:=eT _ _ _ _ _ _;have f:=ic fj x y k 0 0;have j:eG fj x y 0 0 (k+1)=(fj (x.getD (0+k) 0) (y.getD (0+k) 0) (eG fj x y 0 0 k)).2:=rfl;rw[Nat.zero_add,<-P]at f j;refine aa (λl=>?_) (λl=>?_)
   ·have l:=dT l;refine⟨_,_,_,OX _,?_⟩;obtain⟨E,C,A,u,D,Q,e,H⟩:=Dz w o F (wrap .i64 (((x.getD k 0:Nat):Int)-((y.getD k 0:Nat):Int)-(cc:Int)+10)) (by rw[lM,v];omega);refine⟨E,C,A,u,D,?_⟩;have d:fj (x.getD k 0) (y.getD k 0) cc=(x.getD k 0+10-y.getD k 0-cc,1):=by unfold fj;rw[if_pos (by omega)]
    refine oR (b:=1) (t-1) (by omega) ⟨by omega,by omega,by rw[j,d],?_,H⟩;rw[f,d,map_append];have G:wrap .i64 (((x.getD k 0:Nat):Int)-((y.getD k 0:Nat):Int)-(cc:Int)+10)=((x.getD k 0+10-y.getD k 0-cc:Nat):Int):=by rw[aD (by omega) (by omega)];omega
    rw[G]at e⊢;exact e
   ·have l:=dF l;refine⟨_,_,_,OX _,?_⟩;obtain⟨E,C,A,u,D,Q,e,H⟩:=Dz w o F (((x.getD k 0:Nat):Int)-((y.getD k 0:Nat):Int)-(cc:Int)) (by rw[lM,v];omega);refine⟨E,C,A,u,D,?_⟩;have d:fj (x.getD k 0) (y.getD k 0) cc=(x.getD k 0-y.getD k 0-cc,0):=by unfold fj;rw[if_neg (by omega)]
    refine oR (b:=0) (t-1) (by omega) ⟨by omega,by omega,by rw[j,d],?_,H⟩;rw[f,d,map_append];have G:((x.getD k 0:Nat):Int)-((y.getD k 0:Nat):Int)-(cc:Int)=((x.getD k 0-y.getD k 0-cc:Nat):Int):=by omega
    rw[G]at e⊢;exact e
  ·have s:=dF s;obtain rfl:k=x.length:=by omega
   exact⟨r,z,B,rfl,F,o⟩)
 exact Mx a n c b m i h _ (L x.length (k:=0) (cc:=0) ⟨by omega,by omega,rfl,.inl ⟨rfl,rfl⟩,Ok.refl w⟩)
theorem N8(r:Rd h 5 v (s.map sM)):Bf SS.P 172 9 v h=some (strOf s):=Yt AL Ys un5 r
theorem EI{z:Nat}(b:i<z)(c:z<=x.length):((x.take z).drop i).reverse=((x.take z).drop (i+1)).reverse++[x.getD i 0]:=by
 have a:i<(x.take z).length:=by rw[length_take];omega
 rw[drop_eq_getElem_cons a,List.reverse_cons,List.getElem_take,gD,gE (by omega)];rfl
theorem r6{c:Nat}(L:Rd h 3 (.slice a n c) (x.map iv))(P:∀d∈x,d<10)(V:x.length<=100000)(w:Wf h):
  FW SS 153 [.slice a n c] h (λv D=>v=strOf (ag (Num.bv 10 x))/\Ok h D):=by
 have hn:n=x.length:=by have:=L.len;rwa[lM]at this
 have Q:=λ(f:Nat) (hz:f<=x.length) (T:0<x.length->0<f) (W:0<x.length->td (x.take f)=ag (Num.bv 10 x))=>wA a n c (λy i r H R g=> -1<=i/\i<(f:Int)/\y=(i+1).toNat/\ei h g 5 (.slice r H R) ((((x.take f).drop (i+1).toNat).reverse.map eS).map sM)/\Ok h g) (λv D=>v=strOf (ag (Num.bv 10 x))/\Ok h D) (by
  intro y i r H R;intros;rename_i g M;obtain⟨h1,h2,Y,t,J⟩:=M;refine aa (λq=>?_) (λq=>?_)
  ·have q:=dT q;obtain⟨p,K,F⟩:=(L.ok J).at_ tO VY HO GD (k:= .i64) (i:=i) q (by rw[lM];omega);rw[tl x i.toNat (by omega)]at F;refine⟨p,K,_,F,_,_,_,Y7 _,?_⟩;have N:=aZ (by omega) P i.toNat;obtain⟨b,m,d,u,g6,g7,O,g9⟩:=N7 w J t (wrap .u8 (wrap .i64 (48+((x.getD i.toNat 0:Nat):Int)))) (by simp;omega);refine⟨b,m,d,u,g6,?_⟩;have I:wrap .i64 (i-1)=i-1:=aD (by omega) (by omega);refine S7 (y-1) (by omega) ?_;rw[I];refine⟨by omega,by omega,by omega,?_,g9⟩;rw[show(i-1+1).toNat=i.toNat by omega,EI (by omega) hz,map_append,map_append];rw[show(i+1).toNat=i.toNat+1 by omega]at O;have X:sM (eS (x.getD i.toNat 0)) = .int .u8 (wrap .u8 (wrap .i64 (48+((x.getD i.toNat 0:Nat):Int)))):=by
    unfold sM;rw[jw N,aD (by omega) (by omega),su (by omega) (by omega)]
    first|rfl|(congr 1;omega)
   show ei h _ 5 _ (_++[sM (eS (x.getD i.toNat 0))]);rw[X];exact O
  ·have q:=dF q;obtain rfl:i = -1:=by omega
   have e0:((-1:Int)+1).toNat=0:=rfl;rw[e0,drop_zero]at t;have S:=t.len;simp only[lM,List.length_reverse,length_take]at S;refine aa (λo=>?_) (λo=>?_)
   ·have o:(H:Int)=0:=by simpa using o
    have E:x=[]:=by
     rcases Nat.eq_zero_or_pos x.length with e|e
     ·exact List.eq_nil_of_length_eq_zero e
     ·have:=T e;omega
    subst E;exact⟨by rw[show Num.bv 10 []=0 from rfl,nN],J⟩
   ·have o:¬(H:Int)=0:=by simpa using o
    have E:0<x.length:=by omega
    have:=N8 t.rd;rw[show((x.take f).reverse.map eS)=td (x.take f)from rfl,W E]at this;exact⟨_,this,rfl,J⟩)
 have s:∀(f:Nat),ei h h 5 (.slice none 0 0) ((((x.take f).drop ((f:Int)-1+1).toNat).reverse.map eS).map sM):=λf=>by
  rw[show((f:Int)-1+1).toNat=f by omega,List.drop_of_length_le (by rw[length_take];omega)];exact .inl ⟨rfl,rfl⟩
 have L1:=wz a n c (λy z g=>0<=z/\z<=x.length/\y=z.toNat/\(0<x.length->0<z)/\(∀j:Nat,z<=j->x.getD j 0=0)/\g=h) (λv D=>v=strOf (ag (Num.bv 10 x))/\Ok h D) (by
  intro y z;intros;rename_i g M;obtain⟨h1,h2,Y,t,q,rfl⟩:=M;obtain⟨f,rfl⟩:∃f:Nat,z=f:=⟨z.toNat,by omega⟩
  have I:wrap .i64 ((f:Int)-1)=(f:Int)-1:=aD (by omega) (by omega);have B:(1<f->x.getD (f-1) 0≠0)->0<x.length->td (x.take f)=ag (Num.bv 10 x):=λZ C=>by
   rw[<-BZ (l:=x) (n:=f) (λj U=>q j (by omega))];refine Ov (λd N=>P d (List.mem_of_mem_take N)) (λe=>?_) (λA=>?_)
   ·have:=congrArg List.length e;rw[length_take]at this;have h9:min f x.length=0:=this;have:=t C;omega
   ·rw[length_take]at A;have G:=Z (by omega);rw[List.getLast?_eq_getElem?,length_take,List.getElem?_take,if_pos (by omega)];rw[gD,gE (by omega)]at G;rw[show min f x.length-1=f-1 by omega,gE (by omega)];simpa using G
  refine aa (λo=>?_) (λo=>?_)
  ·have o:=dT o;rw[I];obtain⟨p,K,F⟩:=L.at_ tO VY HO GD (k:= .i64) (i:=(f:Int)-1) (by omega) (by rw[lM];omega);rw[tl x _ (by omega),show((f:Int)-1).toNat=f-1 by omega]at F;refine⟨p,K,_,F,aa (λA=>?_) (λA=>?_)⟩
   ·have A:((x.getD (f-1) 0:Nat):Int)=0:=by simpa using A
    refine bY (y-1) (by omega) ⟨by omega,by omega,by omega,λ_=>by omega,λj U=>?_,rfl⟩;rcases lt_or_ge j f with G|G
    ·obtain rfl:j=f-1:=by omega
     omega
    ·exact q j (by omega)
   ·have A:¬((x.getD (f-1) 0:Nat):Int)=0:=by simpa using A
    exact Q f (by omega) (λC=>by have:=t C;omega) (B λ_=>by omega) f ⟨by omega,by omega,by omega,s f,Ok.refl w⟩
  ·have o:=dF o;rw[I];exact Q f (by omega) (λC=>by have:=t C;omega) (B λhh=>by omega) f ⟨by omega,by omega,by omega,s f,Ok.refl w⟩)
 refine My a n c h _ (L1 n (z:=(n:Int)) ⟨by omega,by omega,by omega,λC=>by omega,λj U=>?_,rfl⟩);rw[gD,List.getElem?_eq_none (by omega)];rfl
noncomputable def cw:FD:=cA Tryz.f137 [([1,1,1,1,1,0,1,0,0],[0,1,7,8,9]),([1,1,1,1,1,0,1,0,0,1,0,0,1,1,0,0,0],[0,1,7,8,9,10]),([1,1,1,1,1,1,1,0,0,0],[0,1,7,8,11])]
abbrev fO(a b:LB)(k:Nat)(r:LB)(q:OA)(d c:Nat):LV:=[(strOf a),(strOf b),(.slice q d c),(strOf r),(iA k)]
abbrev jL(a b:LB)(k:Nat)(q:OA)(e c:Nat)(r:LB)(d:Int):LV:=[(strOf a),(strOf b),(.slice q e c),(strOf r),(iA k),(.int .u8 d)]
abbrev l6(a b r:LB)(q:OA)(d c:Nat)(z:Nat):LV:=[(strOf a),(strOf b),(.slice q d c),(strOf r),(iA z)]
theorem QF(a b:LB)(h:ae)(Q:VH)(i:FW SS 136 [(strOf a)] h λg h=>yB g λf=>au (!f) (Q (.tuple ⟨[(strOf []),(strOf []),(.int .i64 1)]⟩) h) (FW SS 136 [(strOf b)] h λd e=>yB d λc=>au (!c) (Q (.tuple ⟨[(strOf []),(strOf []),(.int .i64 1)]⟩) e) (au ((b:LB)==[48]) (Q (.tuple ⟨[(strOf []),(strOf []),(.int .i64 4)]⟩) e) (LL SS cw [1,1,1,1,1,0,1,0,0] (fO a b 0 ([48]) none 0 0) e (KK SS cw [1,1,1,1,1,0,1,0] [] (EE SS cw Q)))))):FW SS 137 [(strOf a),(strOf b)] h Q:=cN cw Tryz.func137 (ai i)
theorem ye(a b:LB)  (g:Nat->Nat->LB->OA->Nat->Nat->ae->Prop) (Q:VH) (step:∀(i:Nat)(k:Nat)(r:LB)(q:OA)(f e:Nat)(l:Nat->Value)(h:ae),g i k r q f e h->au (decide (((k:Int):Int)<((a:LB).length:Int))) (au ((r:LB)==[48]) (xS (bP SS.P 9 (strOf a) (some (iA k)) (some (.int .i64 (wrap .i64 ((k:Int)+1)))) none h) λc=>LL SS cw [1,1,1,1,1,0,1,0,0,1,0,0,1,1,0,0,0] (jL a b k q f e c 48) h (KK SS cw [1,0,0,1,1,0,0] [1,1,1,1,1,0,1,0,0] (RR cw [1,1,1,1,1,0,1,0,0] (BP (fO a b) g) i (KK SS cw [1,1,1,1,1,0,1,0] [] (EE SS cw Q))))) (xS (bP SS.P 9 (strOf a) (some (iA k)) (some (.int .i64 (wrap .i64 ((k:Int)+1)))) none h) λd=>xS (ay SS.P .add 9 (strOf r) (strOf d)) λc=>LL SS cw [1,1,1,1,1,0,1,0,0,1,0,0,1,1,0,0,0] (jL a b k q f e c 48) h (KK SS cw [1,0,0,1,1,0,0] [1,1,1,1,1,0,1,0,0] (RR cw [1,1,1,1,1,0,1,0,0] (BP (fO a b) g) i (KK SS cw [1,1,1,1,1,0,1,0] [] (EE SS cw Q)))))) (LL SS cw [1,1,1,1,1,1,1,0,0,0] (l6 a b r q f e 0) h (KK SS cw [1,1,1,1,1,1,1,0,0] [] (EE SS cw Q)))) (i:Nat) {k:Nat} {r:LB} {q:OA} {f e:Nat} {h:ae} (j:g i k r q f e h):LL SS cw [1,1,1,1,1,0,1,0,0] (fO a b k r q f e) h (KK SS cw [1,1,1,1,1,0,1,0] [] (EE SS cw Q)):=
 FP (fO a b) g (λi k r q f e l h j=>ai (step i k r q f e l h j)) i j
theorem yf(a b:LB)(E:Nat->Nat->LB->OA->Nat->Nat->ae->Prop)(G k:Nat)(q:OA)(D C:Nat)(B:Nat->LB->Int->ae->Prop)(Q:VH)(step:∀(A:Nat) (r:LB) (d:Int) (H:Nat->Value) (h:ae),B A r d h->FW SS 154 [(strOf r),(strOf b)] h λy z=>yI .i64 y λx=>au (decide ((x:Int)>=0)) (FW SS 150 [(strOf r)] z λv w=>yL v λs t u=>FW SS 150 [(strOf b)] w λp r=>yL p λm n o=>FW SS 155 [(.slice s t u),(.slice m n o)] r λj l=>yL j λg h i=>FW SS 153 [(.slice g h i)] l λe f=>yS e λc=>aB (qR (jL a b k q D C) B) A [(strOf a),(strOf b),(.slice q D C),(strOf c),(iA k),(.int .u8 (wrap .u8 (d+1)))] f) (xR (aF SS.P 172 1 [(0,(.int .u8 d))]) z λ_ g h i=>xE (bF SS.P 172 172 (.slice q D C) (sA (z.next) g h) i) i λc d e _ f=>aB (BP (fO a b) E) G [(strOf a),(strOf b),(.slice c d e),(strOf r),(.int .i64 (wrap .i64 ((k:Int)+1)))] f))(A:Nat){r:LB}{d:Int}{h:ae}(F:B A r d h):LL SS cw [1,1,1,1,1,0,1,0,0,1,0,0,1,1,0,0,0] (jL a b k q D C r d) h (KK SS cw [1,0,0,1,1,0,0] [1,1,1,1,1,0,1,0,0] (RR cw [1,1,1,1,1,0,1,0,0] (BP (fO a b) E) G (KK SS cw [1,1,1,1,1,0,1,0] [] (EE SS cw Q)))):=
 nE (jL a b k q D C) B (λA r d H h F=>ai (step A r d H h F)) A F
theorem yg(a b:LB)(r:LB)(q:OA)(g j:Nat)(k:Nat->Nat->ae->Prop)(Q:VH)(step:∀(i:Nat) (z:Nat) (m:Nat->Value) (h:ae),k i z h->au (decide (((z:Int):Int)<wrap .i64 ((g:Int)-1))) (iP 172 (.slice q g j) (iA z) λf=>xI .u8 (aj SS.P 5 h (.pointer (some f))) λe=>au (((e:Int)==48)) (aB (eR (l6 a b r q g j) k) i [(strOf a),(strOf b),(.slice q g j),(strOf r),(.int .i64 (wrap .i64 ((z:Int)+1)))] h) (xL (bP SS.P 172 (.slice q g j) (some (iA z)) none none h) λb c d=>xS (Bf SS.P 172 9 (.slice b c d) h) λa=>Q (.tuple ⟨[(strOf a),(strOf r),(.int .i64 0)]⟩) h)) (xL (bP SS.P 172 (.slice q g j) (some (iA z)) none none h) λb c d=>xS (Bf SS.P 172 9 (.slice b c d) h) λa=>Q (.tuple ⟨[(strOf a),(strOf r),(.int .i64 0)]⟩) h))(i:Nat){z:Nat}{h:ae}(l:k i z h):LL SS cw [1,1,1,1,1,1,1,0,0,0] (l6 a b r q g j z) h (KK SS cw [1,1,1,1,1,1,1,0,0] [] (EE SS cw Q)):=
 cY (l6 a b r q g j) k (λi z m h l=>ai (step i z m h l)) i l
noncomputable def pg:FD:=cA Tryz.f118 [([1,1,0,0,0],[0,1])]
abbrev l7  (x y:LB):LV:=[(strOf x),(strOf y)]
theorem QG(a b:LB)(h:ae)(Q:VH)(i:FW SS 136 [(strOf a)] h λg h=>yB g λf=>au (!f) (Q (.tuple ⟨[(strOf []),(.int .i64 1)]⟩) h) (FW SS 136 [(strOf b)] h λd e=>yB d λc=>au (!c) (Q (.tuple ⟨[(strOf []),(.int .i64 1)]⟩) e) (LL SS pg [1,1,0,0,0] (l7 a b) e (KK SS pg [1,1,0,0] [] (EE SS pg Q))))):FW SS 118 [(strOf a),(strOf b)] h Q:=cN pg Tryz.func118 (ai i)
theorem yh(a b:LB)  (g:Nat->LB->LB->ae->Prop) (Q:VH) (step:∀(f:Nat)(x y:LB)(j:Nat->Value)(h:ae),g f x y h->au (!((y:LB)==[48])) (FW SS 137 [(strOf x),(strOf y)] h λd e=>∃c:LB,∃b:LB,∃a:Int,d=(.tuple ⟨[(strOf c),(strOf b),(.int .i64 a)]⟩)/\aB (qR l7 g) f [(strOf y),(strOf b)] e) (Q (.tuple ⟨[(strOf x),(.int .i64 0)]⟩) h)) (f:Nat) {x y:LB} {h:ae} (i:g f x y h):LL SS pg [1,1,0,0,0] (l7  x y) h (KK SS pg [1,1,0,0] [] (EE SS pg Q)):=
 nE l7 g (λf x y j h i=>ai (step f x y j h i)) f i
variable{k:Nat}
theorem UT(l:List UInt8){h:ae}{a b:Nat}(c:a<=b)(d:b<=l.length):bP SS.P 9 (strOf l) (some (.int .i64 (a:Int))) (some (.int .i64 (b:Int))) none h=some (strOf ((l.drop a).take (b-a))):=ou Ys l rfl rfl c d
theorem TM(h:k<s.length):(s.drop k).take (k+1-k)=[s.getD k 0]:=by
 rw[Ff h,show k+1-k=1 by omega];rfl
theorem fR(h:n<10^1000):(ag n).length<=1000:=(dK (by omega)).2 h
theorem LF(h:k<s.length):s[k]?=some (s.getD k 0):=by
 rw[gD,gE h];rfl
def three(a b:List UInt8)(e:Int):Value:= .tuple ⟨[strOf a,strOf b,.int .i64 e]⟩
theorem zI(m n:Nat)(L:m<10^1000)(B:n<10^1000)(U:0<n)(h:ae)(w:Wf h):FW SS 137 [strOf (ag m),strOf (ag n)] h (λv D=>v=three (ag (m/n)) (ag (m%n)) 0/\Ok h D):=by
 have u4:=fR L;have z8:=fR B;have z1:=cP m;generalize ha:ag m=a at*;have y5:Num.val a=m:=by rw[<-ha,bu]
 have y7:¬ag n=[48]:=λe=>by have:=bI.1 e;omega
 have L3:=λ(g0:ae) (r:List UInt8) (q:Option Addr) (l x:Nat) (c:List UInt8) (M:ei h g0 5 (.slice q l x) (c.map sM)) (hq:c.all bN=true) (z7:0<c.length) (z9:c.length<=1000) (y4:Num.val c=m/n) (y:r=ag (m%n)) (N:Ok h g0)=>
  yg a (ag n) r q l x (λs z g=>z+1<=c.length/\s=c.length-z/\(∀i,i<z->c[i]?=some 48)/\g=g0) (λv D=>v=three (ag (m/n)) (ag (m%n)) 0/\Ok h D) (by
  intro s z;intros;rename_i g O;obtain⟨h1,h2,h3,rfl⟩:=O;have u2:l=c.length:=by have:=M.len;rwa[lM]at this
  have hw:wrap .i64 ((l:Int)-1)=(l:Int)-1:=aD (by omega) (by omega);have E:wrap .i64 ((z:Int)+1)=((z+1:Nat):Int):=by rw[aD (by omega) (by omega)];omega
  have x3:(z+1<c.length->c[z]?≠some 48)->∃(x4:Option Addr)(x5 x2:Nat),bP SS.P 172 (.slice q l x) (some (.int .i64 (z:Int))) none none g=some (.slice x4 x5 x2)/\∃Y:List UInt8,Bf SS.P 172 9 (.slice x4 x5 x2) g=some (strOf Y)/\(three Y r 0=three (ag (m/n)) (ag (m%n)) 0/\Ok h g):=λhs=>by
   obtain⟨a',n',c',g1,A⟩:=M.from_ AL zz5 (z:=z) (by rw[lM];omega);rw[<-List.map_drop]at A;refine⟨a',n',c',g1,_,N8 A,?_,N⟩;rw[Iq hq (by omega) h3 hs,y4,y]
  rw[hw,E];refine aa (λo=>?_) (λo=>?_)
  ·have o:=dT o;obtain⟨p,A,X⟩:=M.rd.at_ AL zz5 un5 ag5 (k:= .i64) (i:=(z:Int)) (by omega) (by rw[lM];omega);have C:(c.map sM).getD ((z:Int)).toNat undef = .int .u8 ((c.getD z 0).toNat:Nat):=by
    rw[Int.toNat_natCast,gD,getElem?_map,LF (by omega)];rfl
   rw[C]at X;refine⟨p,A,_,X,aa (λf=>?_) (λf=>?_)⟩
   ·have f:=Gb.1 f;refine bY (s-1) (by omega) ⟨by omega,by omega,λi O=>?_,rfl⟩;rcases lt_or_ge i z with t|t
    ·exact h3 i t
    ·obtain rfl:i=z:=by omega
     rw[LF (by omega),f]
   ·exact x3 λ_ e=>by
     rw[LF (by omega)]at e;rw[Gb.2 (oI e)]at f;cases f
  ·have o:=dF o;exact x3 λhh=>by omega)
 have L1:=ye a (ag n) (λs k r q l x g=>k<=a.length/\s=a.length-k/\r=ag (Num.val (a.take k)%n)/\(∃c:List UInt8,c.length=k/\c.all bN=true/\Num.val c=Num.val (a.take k)/n/\ei h g 5 (.slice q l x) (c.map sM))/\Ok h g) (λv D=>v=three (ag (m/n)) (ag (m%n)) 0/\Ok h D) (by
  intro s k r q l x;intros;rename_i g O;obtain⟨h1,h2,y,⟨c,y2,x9,G,M⟩,N⟩:=O;refine aa (λo=>?_) (λo=>?_)
  ·have o:=dT o;have F:k<a.length:=by omega
   have S:=Cl z1 F;have y6:=qT S;have y0:=mod_lt (Num.val (a.take k)) U;have E:wrap .i64 ((k:Int)+1)=((k+1:Nat):Int):=by rw[aD (by omega) (by omega)];omega
   have x7:Num.val (a.take (k+1))=10*Num.val (a.take k)+js (a.getD k 0):=sG (LF F);have K:=Gu (r:=Num.val (a.take k)%n) S;have L2:=yf a (ag n) (λs k r q l x g=>k<=a.length/\s=a.length-k/\r=ag (Num.val (a.take k)%n)/\(∃c:List UInt8,c.length=k/\c.all bN=true/\Num.val c=Num.val (a.take k)/n/\ei h g 5 (.slice q l x) (c.map sM))/\Ok h g) s k q l x
    (λx0 r d A=>∃j:Nat,d=48+(j:Int)/\j*n<=10*(Num.val (a.take k)%n)+js (a.getD k 0)/\r=ag (10*(Num.val (a.take k)%n)+js (a.getD k 0)-j*n)/\x0=10*(Num.val (a.take k)%n)+js (a.getD k 0)-j*n/\Ok g A) (λv D=>v=three (ag (m/n)) (ag (m%n)) 0/\Ok h D) (by
    intro x0 r2 d;intros;rename_i A z4;obtain⟨j,rfl,x6,rfl,u3,J⟩:=z4;have P:=Ia U y6 x6;generalize hR:10*(Num.val (a.take k)%n)+js (a.getD k 0)=R at*;have z6:(ag (R-j*n)).length<=1001:=by
     have z5:=oF n;refine Nat.le_trans ((dK (k:=(ag n).length+1) (by omega)).2 ?_) (by omega);rw[Nat.pow_succ];generalize 10^(ag n).length=T at z5;clear B L;omega
    have y9:=N.trans J;refine(qq (R-j*n) n (by omega) (by omega) A y9.wf).mono ?_;rintro _ X ⟨rfl,H⟩;refine⟨_,rfl,aa (λf=>?_) (λf=>?_)⟩
    ·have f:=EP.1 (dT f);refine(r5 _ (cP _) (by omega) X H.wf).mono ?_;rintro _ g4 ⟨a1,n1,c1,rfl,o1,x8⟩;refine⟨a1,n1,c1,rfl,(r5 _ (cP _) (by omega) g4 x8.wf).mono ?_⟩;rintro _ g5 ⟨a2,n2,c2,rfl,o2,Q⟩;refine⟨a2,n2,c2,rfl,(Dq (o1.rd.ok Q) o2.rd (ml (cP _)) (ml (cP _)) (by rw[kY];omega) Q.wf).mono ?_⟩;rintro _ g6 ⟨a3,n3,c3,rfl,o3,x1⟩;refine⟨a3,n3,c3,rfl,(r6 o3.rd (ET (ml (cP _)) (ml (cP _)) _ _ _ (by omega)) (by rw[eT,kY];omega) x1.wf).mono ?_⟩;rintro _ g7 ⟨rfl,z0⟩;have z2:(ag n).length<=(ag (R-j*n)).length:=by
      rcases lt_or_ge (ag (R-j*n)).length (ag n).length with t|t
      ·have:=lT t;omega
      ·exact t
     have Z:=ES (ml (cP (R-j*n))) (ml (cP n)) (by rw[kY,kY];exact z2) (by rw[fZ,fZ,bu,bu];exact f);rw[fZ,fZ,bu,bu]at Z;rw[Z];refine⟨_,rfl,?_⟩;have y3:wrap .u8 (48+(j:Int)+1)=48+((j+1:Nat):Int):=by rw[su (by omega) (by omega)];omega
     rw[y3];have C:(j+1)*n=j*n+n:=Nat.succ_mul j n;exact jb (R-j*n-n) (by clear B L;omega) ⟨j+1,rfl,by rw[C];clear B L;omega,by rw[C,Nat.sub_sub],by rw[C,Nat.sub_sub],((((J.trans H).trans x8).trans Q).trans x1).trans z0⟩
    ·have f:¬(n<=R-j*n):=λe=>by have:=dF f;exact this (EP.2 e)
     have W:=Ib (V:=Num.val (a.take k)) (d:=js (a.getD k 0)) U (k:=j) (by rw[hR];exact x6) (by rw[hR,Nat.succ_mul];clear B L;omega);rw[hR]at W;refine⟨_,_,_,Y7 _,?_⟩;have y8:=N.trans (J.trans H);obtain⟨b,mm,dd,u,g6,g7,g8,g9⟩:=N7 w y8 (M.ok (J.trans H)) (48+(j:Int)) (by rw[lM];omega);refine⟨b,mm,dd,u,g6,?_⟩;rw[E];refine oR (s-1) (by omega) ⟨by omega,by omega,?_,⟨c++[eS j],by simp[y2],?_,?_,?_⟩,g9⟩
     ·rw[x7,W.2]
     ·rw[List.all_append,x9];simp[sY P]
     ·rw[im,G,B4 P,x7,W.1]
     ·rw[map_append];have C:sM (eS j) = .int .u8 (48+(j:Int)):=by
       unfold sM;rw[jw P];rfl
      show ei h _ 5 _ (_++[sM (eS j)]);rw[C];exact g8)
   have I:∀r',r'=ag (10*(Num.val (a.take k)%n)+js (a.getD k 0))->∃j:Nat,(48:Int)=48+(j:Int)/\j*n<=10*(Num.val (a.take k)%n)+js (a.getD k 0)/\r'=ag (10*(Num.val (a.take k)%n)+js (a.getD k 0)-j*n)/\10*(Num.val (a.take k)%n)+js (a.getD k 0)=10*(Num.val (a.take k)%n)+js (a.getD k 0)-j*n/\Ok g g:=
    λr' e=>⟨0,rfl,by rw[Nat.zero_mul];exact Nat.zero_le _,by rw[Nat.zero_mul,Nat.sub_zero];exact e,by rw[Nat.zero_mul,Nat.sub_zero],Ok.refl N.wf⟩
   rw[E];refine aa (λf=>?_) (λf=>?_)
   ·have f:r=[48]:=by simpa using f
    refine⟨_,UT a (by omega) (by omega),?_⟩;rw[TM F];refine L2 _ (I _ ?_);rw[<-K,if_pos (by rw[<-y];exact f)]
   ·have f:¬r=[48]:=by simpa using f
    refine⟨_,UT a (by omega) (by omega),?_⟩;rw[TM F];have u1:r.length<=1000:=by
     rw[y];exact fR (Nat.lt_trans y0 B)
    refine⟨_,re r [a.getD k 0] (by simp;omega),?_⟩;refine L2 _ (I _ ?_);rw[<-K,if_neg (by rw[<-y];exact f),y]
  ·have o:=dF o;obtain rfl:k=a.length:=by omega
   rw[List.take_length]at G y;rw[y5]at G y;have u0:0<a.length:=by rw[<-ha];exact nu m
   exact L3 g r q l x c M x9 (by omega) (by omega) G y N c.length (z:=0) ⟨by omega,by omega,λi O=>by omega,rfl⟩)
 refine QF a (ag n) h _ ?_;refine(dn a h).mono ?_;rintro _ _ ⟨rfl,rfl⟩;have z3:Num.valid a=true:=by rw[<-ha];exact ef.2 L
 have y1:Num.valid (ag n)=true:=ef.2 B;refine⟨_,rfl,aa (λf=>?_) (λf=>?_)⟩
 ·rw[z3]at f;cases f
 ·refine(dn (ag n) _).mono ?_;rintro _ _ ⟨rfl,rfl⟩;refine⟨_,rfl,aa (λt=>?_) (λt=>aa (λh8=>?_) (λh8=>?_))⟩
  ·rw[y1]at t;cases t
  ·exact absurd (by simpa using h8) y7
  ·exact L1 a.length (k:=0) ⟨by omega,by omega,by rw[take_zero];simp[jV,nN],⟨[],rfl,rfl,by rw[take_zero];simp[jV],.inl ⟨rfl,rfl⟩⟩,Ok.refl w⟩
def two(a:List UInt8)(e:Int):Value:= .tuple ⟨[strOf a,.int .i64 e]⟩
def A2(a b:List UInt8):Value:=if Num.valid a=true/\Num.valid b=true then two (ag (Nat.gcd (Num.val a) (Num.val b))) 0 else two [] 1
theorem FL(a b:List UInt8)(h:ae)(w:Wf h):FW SS 118 [strOf a,strOf b] h (λv s=>v=A2 a b/\Ok h s):=by
 refine QG a b h _ ?_;refine(dn a h).mono ?_;rintro _ _ ⟨rfl,rfl⟩;refine⟨_,rfl,aa (λi=>?_) (λi=>?_)⟩
 ·refine⟨?_,Ok.refl w⟩;unfold A2;rw[if_neg (λe=>by rw[e.1]at i;cases i)];rfl
 ·refine(dn b _).mono ?_;rintro _ _ ⟨rfl,rfl⟩;refine⟨_,rfl,aa (λf=>?_) (λf=>?_)⟩
  ·refine⟨?_,Ok.refl w⟩;unfold A2;rw[if_neg (λe=>by rw[e.2]at f;cases f)];rfl
  ·have o:Num.valid a=true:=by simpa using i
   have k:Num.valid b=true:=by simpa using f
   obtain⟨m,rfl,C,_⟩:=cq o;obtain⟨n,rfl,B,_⟩:=cq k;rename_i u _ _;have L:=yh (ag m) (ag n) (λc x y g=>∃p q:Nat,x=ag p/\y=ag q/\p<10^1000/\q<10^1000/\Nat.gcd p q=Nat.gcd m n/\c=q/\Ok u g) (λv s=>v=A2 (ag m) (ag n)/\Ok u s) (by
    intro c x y;intros;rename_i g D;obtain⟨p,q,rfl,rfl,F,r,A,rfl,t⟩:=D;refine aa (λd=>?_) (λd=>?_)
    ·have d:¬ag c=[48]:=by simpa using d
     have l:0<c:=Nat.pos_of_ne_zero λe=>d (bI.2 e);refine(zI p c F r l g t.wf).mono ?_;rintro _ G ⟨rfl,z⟩;refine⟨_,_,_,rfl,?_⟩;have j:=mod_lt p l;exact jb (p%c) j ⟨c,p%c,rfl,rfl,r,Nat.lt_trans j r,by rw[<-K0];exact A,rfl,t.trans z⟩
    ·have d:ag c=[48]:=by simpa using d
     have E:=bI.1 d;subst E;refine⟨?_,t⟩;unfold A2;rw[if_pos ⟨o,k⟩,bu,bu,<-A,Nat.gcd_zero_right];rfl)
   exact L n ⟨m,n,rfl,rfl,C,B,rfl,rfl,Ok.refl w⟩
noncomputable def mD:FD:=cA Tryz.f174 [([1,0,0,0],[0])]
abbrev ny  (r:OA) (m d:Nat):LV:=[(.slice r m d)]
theorem C2(a:OA)(n c:Nat)(h:ae)(Q:VH)(b:LL SS mD [1,0,0,0] [(.slice a n c)] h (KK SS mD [1,0,0] [] (EE SS mD Q))):FW SS 174 [(.slice a n c)] h Q:=cN mD Tryz.func174 (ai b)
theorem oX(a:OA)(n c:Nat)  (i:Nat->OA->Nat->Nat->ae->Prop) (Q:VH) (step:∀(g:Nat)(r:OA)(m d:Nat)(k:Nat->Value)(h:ae),i g r m d h->au (decide (((m:Int):Int)>0)) (iP 177 (.slice r m d) (.int .i64 (wrap .i64 ((m:Int)-1))) λf=>xI .u64 (aj SS.P 150 h (.pointer (some f))) λe=>au (((e:Int)==0)) (xL (bP SS.P 177 (.slice r m d) none (some (.int .i64 (wrap .i64 ((m:Int)-1)))) none h) λa b c=>aB (Al ny i) g [(.slice a b c)] h) (Q (.slice r m d) h)) (Q (.slice r m d) h)) (g:Nat) {r:OA} {m d:Nat} {h:ae} (j:i g r m d h):LL SS mD [1,0,0,0] (ny  r m d) h (KK SS mD [1,0,0] [] (EE SS mD Q)):=
 NZ ny i (λg r m d k h j=>ai (step g r m d k h j)) g j
noncomputable def cV:FD:=cA Tryz.f172 [([1,1,0,0,0],[0,3]),([1,1,0,0,0,1,0,1,1,0,1,0,0],[0,3,4,5,6])]
abbrev gn  (s:LB) (r:OA) (a b:Nat):LV:=[(strOf s),(.slice r a b)]
abbrev jc(s:LB)(r:OA)(b c:Nat)(a:Int)(i v:Int):LV:=[(strOf s),(.slice r b c),(.int .i64 a),(.int .u64 v),(.int .i64 i)]
theorem G7(l:LB)(h:ae)(Q:VH)(a:LL SS cV [1,1,0,0,0] [(strOf l),nA] h (KK SS cV [1,1,0,0] [] (EE SS cV Q))):FW SS 172 [(strOf l)] h Q:=cN cV Tryz.func172 (ai a)
theorem tq(l:LB)  (j:Nat->LB->OA->Nat->Nat->ae->Prop) (Q:VH) (step:∀(i:Nat)(s:LB)(r:OA)(f g:Nat)(m:Nat->Value)(h:ae),j i s r f g h->au (decide ((((s:LB).length:Int):Int)>0)) (xI .i64 (rP true [(.int .i64 0),(.int .i64 (wrap .i64 (((s:LB).length:Int)-9)))]) λa=>LL SS cV [1,1,0,0,0,1,0,1,1,0,1,0,0] (jc s r f g a a 0) h (KK SS cV [1,0,1,1,0,1,0] [1,1,0,0,0] (RR cV [1,1,0,0,0] (YY gn j) i (KK SS cV [1,1,0,0] [] (EE SS cV Q))))) (FW SS 174 [(.slice r f g)] h λd e=>yL d λa b c=>Q (.slice a b c) e)) (i:Nat) {s:LB} {r:OA} {f g:Nat} {h:ae} (k:j i s r f g h):LL SS cV [1,1,0,0,0] (gn  s r f g) h (KK SS cV [1,1,0,0] [] (EE SS cV Q)):=
 UG gn j (λi s r f g m h k=>ai (step i s r f g m h k)) i k
theorem tr(l:LB)(p:Nat->LB->OA->Nat->Nat->ae->Prop)(t:Nat)(s:LB)(r:OA)(n o:Nat)(m:Int)(k:Nat->Int->Int->ae->Prop)(Q:VH)(step:∀(j:Nat) (i v:Int) (u:Nat->Value) (h:ae),k j i v h->au (decide ((i:Int)<((s:LB).length:Int))) (xI .u8 (bM SS.P 9 (strOf s) (.int .i64 i)) λa=>aB (qR (jc s r n o m) k) j [(strOf s),(.slice r n o),(.int .i64 m),(.int .u64 (wrap .u64 (wrap .u64 (10*v)+wrap .u64 (wrap .u8 (a-48))))),(.int .i64 (wrap .i64 (i+1)))] h) (xR (aF SS.P 177 1 [(0,(.int .u64 v))]) h λ_ f g i=>xE (bF SS.P 177 177 (.slice r n o) (sA (h.next) f g) i) i λb c d _ e=>xS (bP SS.P 9 (strOf s) none (some (.int .i64 m)) none e) λa=>aB (YY gn p) t [(strOf a),(.slice b c d)] e))(j:Nat){i v:Int}{h:ae}(q:k j i v h):LL SS cV [1,1,0,0,0,1,0,1,1,0,1,0,0] (jc s r n o m i v) h (KK SS cV [1,0,1,1,0,1,0] [1,1,0,0,0] (RR cV [1,1,0,0,0] (YY gn p) t (KK SS cV [1,1,0,0] [] (EE SS cV Q)))):=
 nE (jc s r n o m) k (λj i v u h q=>ai (step j i v u h q)) j q
noncomputable def aas:FD:=cA Tryz.f206 []
theorem XB(x:Int)(h:ae)(Q:VH)(a:Q (.bool (((x:Int) !=x))) h):FW SS 206 [(.int .u64 x)] h Q:=cN aas Tryz.func206 (ai a)
noncomputable def Z9:FD:=cA Tryz.f196 []
theorem WQ(x y:Int)(h:ae)(Q:VH)(g:FW SS 206 [(.int .u64 x)] h λe f=>yB e λd=>FW SS 206 [(.int .u64 y)] f λb c=>yB b λa=>au d (au a (Q (.int .i64 0) c) (Q (.int .i64 (-1)) c)) (au a (Q (.int .i64 1) c) (au (decide ((x:Int)<y)) (Q (.int .i64 (-1)) c) (au (decide ((x:Int)>y)) (Q (.int .i64 1) c) (Q (.int .i64 0) c))))):FW SS 196 [(.int .u64 x),(.int .u64 y)] h Q:=cN Z9 Tryz.func196 (ai g)
noncomputable def aar:FD:=cA Tryz.f165 []
theorem XA(x:Int)(h:ae)(Q:VH)(a:Q (.bool (((x:Int) !=x))) h):FW SS 165 [(.int .i64 x)] h Q:=cN aar Tryz.func165 (ai a)
noncomputable def Z8:FD:=cA Tryz.f195 []
theorem WN(x y:Int)(h:ae)(Q:VH)(g:FW SS 165 [(.int .i64 x)] h λe f=>yB e λd=>FW SS 165 [(.int .i64 y)] f λb c=>yB b λa=>au d (au a (Q (.int .i64 0) c) (Q (.int .i64 (-1)) c)) (au a (Q (.int .i64 1) c) (au (decide ((x:Int)<y)) (Q (.int .i64 (-1)) c) (au (decide ((x:Int)>y)) (Q (.int .i64 1) c) (Q (.int .i64 0) c))))):FW SS 195 [(.int .i64 x),(.int .i64 y)] h Q:=cN Z8 Tryz.func195 (ai g)
noncomputable def iC:FD:=cA Tryz.f186 [([1,1,0,1,0,0],[0,1,18,19])]
abbrev iD(a:OA)(n c:Nat)(b:OA)(m d:Nat)(i:Nat):LV:=[(.slice a n c),(.slice b m d),(iA n),(iA i)]
theorem Ex(a:OA)(n c:Nat)(b:OA)(m d:Nat)(h:ae)(Q:VH)(e:au ((((n:Int):Int) !=(m:Int))) (FW SS 195 [(iA n),(iA m)] h λb c=>yI .i64 b λa=>Q (.int .i64 a) c) (LL SS iC [1,1,0,1,0,0] (iD a n c b m d 0) h (KK SS iC [1,1,0,1,0] [] (EE SS iC Q)))):FW SS 186 [(.slice a n c),(.slice b m d)] h Q:=cN iC Tryz.func186 (ai e)
theorem sP(a:OA)(n c:Nat)(b:OA)(m d:Nat)  (q:Nat->Nat->ae->Prop) (Q:VH) (step:∀(p:Nat)(i:Nat)(s:Nat->Value)(h:ae),q p i h->au (decide (((i:Int):Int)<(n:Int))) (xP (ax SS.P 177 (.slice a n c) (.int .i64 (wrap .i64 (wrap .i64 ((n:Int)-1)-(i:Int))))) λo=>xI .u64 (aj SS.P 150 (room h 18) (.pointer (some o))) λl=>xP (ax SS.P 177 (.slice b m d) (.int .i64 (wrap .i64 (wrap .i64 ((n:Int)-1)-(i:Int))))) λk=>xI .u64 (aj SS.P 150 (room h 18) (.pointer (some k))) λj=>FW SS 196 [(.int .u64 l),(.int .u64 j)] (room h 18) λf g=>yI .i64 f λe=>au (((e:Int) !=0)) (Q (.int .i64 e) g) (aB (eR (iD a n c b m d) q) p [(.slice a n c),(.slice b m d),(iA n),(.int .i64 (wrap .i64 ((i:Int)+1)))] g)) (Q (.int .i64 0) h)) (p:Nat) {i:Nat} {h:ae} (r:q p i h):LL SS iC [1,1,0,1,0,0] (iD a n c b m d i) h (KK SS iC [1,1,0,1,0] [] (EE SS iC Q)):=
 cY (iD a n c b m d) q (λp i s h r=>ai (step p i s h r)) p r
noncomputable def QT:FD:=cA Tryz.f213 []
theorem MF(x y z:Int)(p:OA)(h:ae)(Q:VH)(d:xI .u64 (aj SS.P 150 h (.pointer p)) λc=>xI .u64 (ay SS.P .rem 150 (.int .u64 (wrap .u64 (wrap .u64 (x*c)+z))) (.int .u64 1000000000)) λb=>xI .u64 (ay SS.P .quo 150 (.int .u64 (wrap .u64 (wrap .u64 (x*c)+z))) (.int .u64 1000000000)) λa=>Q (.tuple ⟨[(.int .u64 b),(.int .u64 a)]⟩) h):FW SS 213 [(.int .u64 x),(.int .u64 y),(.int .u64 z),(.pointer p)] h Q:=cN QT Tryz.func213 (ai d)
noncomputable def iy:FD:=cA Tryz.f193 [([1,1,1,0,1,0,0],[0,1,2,7,8,18,19])]
abbrev eJ(a:OA)(n c:Nat)(p:OA)(b:Int)(i:Nat)(cy:Int)(r:OA)(d e:Nat):LV:=[(.slice a n c),nA,(.func (.func 213) ⟨[]⟩ ⟨[(.pointer p)]⟩),(.slice r d e),(.int .u64 cy),(.int .i64 b),(iA i)]
theorem Eo(a:OA)(n c:Nat)(p:OA)(h:ae)(Q:VH)(d:xI .i64 (rP true [(iA n),(.int .i64 0)]) λb=>LL SS iy [1,1,1,0,1,0,0] [(.slice a n c),nA,(.func (.func 213) ⟨[]⟩ ⟨[(.pointer p)]⟩),nA,(.int .u64 0),(.int .i64 (wrap .i64 (b+1))),(.int .i64 0)] h (KK SS iy [1,1,1,0,1,0] [] (EE SS iy Q))):FW SS 193 [(.slice a n c),nA,(.func (.func 213) ⟨[]⟩ ⟨[(.pointer p)]⟩)] h Q:=cN iy Tryz.func193 (ai d)
theorem sN(a:OA)(n c:Nat)(p:OA)(v:Int)(w:Nat->Nat->Int->OA->Nat->Nat->ae->Prop)(Q:VH)(step:∀(z:Nat) (i:Nat) (cy:Int) (r:OA) (x y:Nat) (B:Nat->Value) (h:ae),w z i cy r x y h->au (decide (((i:Int):Int)<v)) (au (decide (((i:Int):Int)<(n:Int))) (iP 177 (.slice a n c) (iA i) λu=>xI .u64 (aj SS.P 150 h (.pointer (some u))) λt=>au (decide (((i:Int):Int)<0)) (iP 177 nA (iA i) λs=>xI .u64 (aj SS.P 150 h (.pointer (some s))) λq=>FW SS 213 [(.int .u64 t),(.int .u64 q),(.int .u64 cy),(.pointer p)] h λm o=>∃l:Int,∃k:Int,m=(.tuple ⟨[(.int .u64 l),(.int .u64 k)]⟩)/\xR (aF SS.P 177 1 [(0,(.int .u64 l))]) o λ_ g h j=>xE (bF SS.P 177 177 (.slice r x y) (sA (o.next) g h) j) j λb d e _ f=>aB (BP (eJ a n c p v) w) z [(.slice a n c),nA,(.func (.func 213) ⟨[]⟩ ⟨[(.pointer p)]⟩),(.slice b d e),(.int .u64 k),(.int .i64 v),(.int .i64 (wrap .i64 ((i:Int)+1)))] f) (FW SS 213 [(.int .u64 t),(.int .u64 0),(.int .u64 cy),(.pointer p)] h λm o=>∃l:Int,∃k:Int,m=(.tuple ⟨[(.int .u64 l),(.int .u64 k)]⟩)/\xR (aF SS.P 177 1 [(0,(.int .u64 l))]) o λ_ g h j=>xE (bF SS.P 177 177 (.slice r x y) (sA (o.next) g h) j) j λb d e _ f=>aB (BP (eJ a n c p v) w) z [(.slice a n c),nA,(.func (.func 213) ⟨[]⟩ ⟨[(.pointer p)]⟩),(.slice b d e),(.int .u64 k),(.int .i64 v),(.int .i64 (wrap .i64 ((i:Int)+1)))] f)) (au (decide (((i:Int):Int)<0)) (iP 177 nA (iA i) λs=>xI .u64 (aj SS.P 150 h (.pointer (some s))) λq=>FW SS 213 [(.int .u64 0),(.int .u64 q),(.int .u64 cy),(.pointer p)] h λm o=>∃l:Int,∃k:Int,m=(.tuple ⟨[(.int .u64 l),(.int .u64 k)]⟩)/\xR (aF SS.P 177 1 [(0,(.int .u64 l))]) o λ_ g h j=>xE (bF SS.P 177 177 (.slice r x y) (sA (o.next) g h) j) j λb d e _ f=>aB (BP (eJ a n c p v) w) z [(.slice a n c),nA,(.func (.func 213) ⟨[]⟩ ⟨[(.pointer p)]⟩),(.slice b d e),(.int .u64 k),(.int .i64 v),(.int .i64 (wrap .i64 ((i:Int)+1)))] f) (FW SS 213 [(.int .u64 0),(.int .u64 0),(.int .u64 cy),(.pointer p)] h λm o=>∃l:Int,∃k:Int,m=(.tuple ⟨[(.int .u64 l),(.int .u64 k)]⟩)/\xR (aF SS.P 177 1 [(0,(.int .u64 l))]) o λ_ g h j=>xE (bF SS.P 177 177 (.slice r x y) (sA (o.next) g h) j) j λb d e _ f=>aB (BP (eJ a n c p v) w) z [(.slice a n c),nA,(.func (.func 213) ⟨[]⟩ ⟨[(.pointer p)]⟩),(.slice b d e),(.int .u64 k),(.int .i64 v),(.int .i64 (wrap .i64 ((i:Int)+1)))] f))) (FW SS 174 [(.slice r x y)] h λd e=>yL d λa b c=>Q (.slice a b c) e))(z:Nat){i:Nat}{cy:Int}{r:OA}{x y:Nat}{h:ae}(A:w z i cy r x y h):LL SS iy [1,1,1,0,1,0,0] (eJ a n c p v i cy r x y) h (KK SS iy [1,1,1,0,1,0] [] (EE SS iy Q)):=
 FP (eJ a n c p v) w (λz i cy r x y B h A=>ai (step z i cy r x y B h A)) z A
noncomputable def JG:FD:=cA Tryz.f202 []
theorem Ha(a:OA)(n c:Nat)(k:Int)(h:ae)(Q:VH)(g:xN (fi SS.P 150 (.int .u64 k)) h λ_ f=>FW SS 193 [(.slice a n c),nA,(.func (.func 213) ⟨[]⟩ ⟨[(pA (h.next))]⟩)] f λd e=>yL d λa b c=>Q (.slice a b c) e):FW SS 202 [(.slice a n c),(.int .u64 k)] h Q:=cN JG Tryz.func202 (ai g)
def uv(d:Nat):Value:= .int .u64 (d:Int)
theorem AM:SS.P.underlying 177=some (.slice 150):=by kernel_rfl
theorem Od:SS.P.underlying 150=some (.int .u64):=by kernel_rfl
theorem D7:aE SS.P 150=some 1:=by kernel_rfl
theorem Nl:Go.Ab.isAgg SS.P 150=false:=by kernel_rfl
noncomputable def Ur:TypeInfo:=(eP SS.P 150).getD default
theorem J0:eP SS.P 150=some Ur:=by kernel_rfl
theorem Dl:Ur.size=1:=by kernel_rfl
theorem AF:Ur.bytes=8:=by kernel_rfl
theorem sH(z:Int):aF SS.P 177 1 [(0,.int .u64 z)]=some (.cells [.int .u64 z] 150 1 true,mh 1 1):=by kernel_rfl
theorem me(d:Wf g)(e:Ok g h){v:Value}{a:List Value}(o:ei g h 150 v a)(z:Int)(f:a.length<=100000):
  ∃(b:Option Addr)(n c:Nat)(u:dL),bF SS.P 177 177 v (.slice (some ⟨h.next,0,none⟩) 1 1) (h.push (.cells [.int .u64 z] 150 1 true))=some (.slice b n c,u)/\n=a.length+1/\ei g (u.app (h.push (.cells [.int .u64 z] 150 1 true))) 150 (.slice b n c) (a++[.int .u64 z])/\Ok g (u.app (h.push (.cells [.int .u64 z] 150 1 true))):=
 ei.snoc AM J0 Dl d e o rfl (by rw[AF];omega) (by omega)
theorem Tx(l:List Nat)(i:Nat)(h:i<l.length):(l.map uv).getD i undef = .int .u64 (l.getD i 0:Nat):=by
 simp[gD,getElem?_map,gE h,uv]
theorem E5(r:Rd h 150 v (x.map uv)){i:Int}(d:0<=i)(b:i<x.length):
  ∃p:Addr,ax SS.P 177 v (.int .i64 i)=some (.pointer (some p))/\aj SS.P 150 h (.pointer (some p))=some (.int .u64 (x.getD i.toNat 0:Nat)):=by
 obtain⟨p,c,a⟩:=r.at_ AM D7 Od Nl (k:= .i64) d (by rw[lM];exact b);rw[Tx x _ (by omega)]at a;exact⟨p,c,a⟩
theorem rR{c:Nat}(o:ei g h 150 (.slice a n c) (x.map uv))(D:x.length<=100000):
  FW SS 174 [.slice a n c] h (λv u=>∃k f e,v = .slice k f e/\ei g h 150 (.slice k f e) ((dN x).map uv)/\u=h):=by
 have A:n=x.length:=by have:=o.len;rwa[lM]at this
 have L:=oX a n c (λb r m d J=>m<=x.length/\b=m/\ei g h 150 (.slice r m d) ((x.take m).map uv)/\dN x=dN (x.take m)/\J=h) (λv u=>∃k f e,v = .slice k f e/\ei g h 150 (.slice k f e) ((dN x).map uv)/\u=h) (by
  intro b r m d;intros;rename_i J I;obtain⟨K,rfl,t,w,rfl⟩:=I;have H:wrap .i64 ((b:Int)-1)=(b:Int)-1:=aD (by omega) (by omega);rw[H];have s:b≠0->x.take b=x.take (b-1)++[x.getD (b-1) 0]:=λs=>by
   obtain⟨j,rfl⟩:∃j,b=j+1:=⟨b-1,by omega⟩
   rw[List.take_succ_eq_append_getElem (by omega),Nat.add_sub_cancel,gD,gE (by omega)];rfl
  refine aa (λq=>?_) (λq=>?_)
  ·have q:=dT q;obtain⟨p,F,C⟩:=E5 t.rd (i:=(b:Int)-1) (by omega) (by rw[length_take];omega);have E:(x.take b).getD ((b:Int)-1).toNat 0=x.getD (b-1) 0:=by
    rw[show((b:Int)-1).toNat=b-1 by omega,gD,List.getElem?_take,if_pos (by omega),gD]
   rw[E]at C;refine⟨p,F,_,C,aa (λl=>?_) (λl=>?_)⟩
   ·have l:((x.getD (b-1) 0:Nat):Int)=0:=by simpa using l
    have l:x.getD (b-1) 0=0:=by omega
    obtain⟨k,f,e,G,y⟩:=t.upto AM D7 (z:=b-1) (by rw[lM,length_take];omega) (by rw[lM,length_take];omega);rw[show((b:Int)-1)=((b-1:Nat):Int) by omega];have B:f=b-1:=by have:=y.len;rw[length_take,lM,length_take]at this;omega
    subst B;refine⟨k,_,e,G,Fo (b-1) (by omega) ⟨by omega,rfl,?_,?_,rfl⟩⟩
    ·rw[<-List.map_take,List.take_take,Nat.min_eq_left (by omega)]at y;exact y
    ·rw[w,s (by omega),l,iZ]
   ·have l:¬((x.getD (b-1) 0:Nat):Int)=0:=by simpa using l
    refine⟨r,b,d,rfl,?_,rfl⟩;rw[w,s (by omega),jT _ (by omega),<-s (by omega)];exact t
  ·have q:=dF q;obtain rfl:b=0:=by omega
   refine⟨r,0,d,rfl,?_,rfl⟩;rw[w];exact t)
 exact C2 a n c h _ (L n ⟨by omega,rfl,by rw[show x.take n=x by rw[A,List.take_length]];exact o,by rw[show x.take n=x by rw[A,List.take_length]],rfl⟩)
theorem EJ{l:List UInt8}(h:i<l.length):Num.val (l.take (i+1))=10*Num.val (l.take i)+js (l.getD i 0):=sG (LF h)
theorem Q0(l:List UInt8){h:ae}{b:Nat}(c:b<=l.length):bP SS.P 9 (strOf l) none (some (.int .i64 (b:Int))) none h=some (strOf (l.take b)):=ou (a:=0) Ys l rfl rfl (by omega) c
theorem IL(b:n=s.length-9)(a:0<s.length):Num.val s=Num.val (s.drop n)+10^(s.length-n)*Num.val (s.take n):=by
 have:=jU (s.take n) (s.drop n);rw[List.take_append_drop,length_drop,Nat.mul_comm]at this;omega
theorem rQ(l:List UInt8)(hd:l.all bN=true)(k:l.length<=10000)(h:ae)(w:Wf h):FW SS 172 [strOf l] h (iW h 150 ((aQ 1000000000 (Num.val l)).map uv)):=by
 have Y:=tq l (λA s r o t g=>A=s.length/\s.all bN=true/\s.length<=10000/\Ok h g/\∃a:List Nat,(∀d∈a,d<1000000000)/\a.length+s.length<=10000/\ei h g 150 (.slice r o t) (a.map uv)/\Num.val l=Num.bv 1000000000 a+1000000000^a.length*Num.val s) (iW h 150 ((aQ 1000000000 (Num.val l)).map uv)) (by
  intro A s r o t;intros;rename_i g X;obtain⟨rfl,p,x2,Q,a,C,x0,O,I⟩:=X;refine aa (λz=>?_) (λz=>?_)
  ·have z:=dT z;have U:wrap .i64 ((s.length:Int)-9)=(s.length:Int)-9:=aD (by omega) (by omega);rw[U];have E:(if(s.length:Int)-9>0 then(s.length:Int)-9 else 0)=((s.length-9:Nat):Int):=by split<;>omega
   refine⟨_,tp _ _ _,?_⟩;rw[E];have T:=tr l (λA s r o t g=>A=s.length/\s.all bN=true/\s.length<=10000/\Ok h g/\∃a:List Nat,(∀d∈a,d<1000000000)/\a.length+s.length<=10000/\ei h g 150 (.slice r o t) (a.map uv)/\Num.val l=Num.bv 1000000000 a+1000000000^a.length*Num.val s) s.length s r o t ((s.length-9:Nat):Int)
    (λq i v B=>∃j:Nat,i=(s.length-9:Nat)+(j:Int)/\s.length-9+j<=s.length/\q=s.length-(s.length-9+j)/\v=(Num.val ((s.drop (s.length-9)).take j):Nat)/\B=g) (iW h 150 ((aQ 1000000000 (Num.val l)).map uv)) (by
    intro q i v;intros;rename_i B P;obtain⟨j,rfl,hj,x3,rfl,rfl⟩:=P;have D:(s.drop (s.length-9)).all bN=true:=by
     rw[all_eq_true]at p⊢;exact λx c=>p x (List.mem_of_mem_drop c)
    have F:=Cg (l:=(s.drop (s.length-9)).take j) (by
     rw[all_eq_true]at D⊢;exact λx c=>D x (List.mem_of_mem_take c))
    have f:Num.val ((s.drop (s.length-9)).take j)<1000000000:=by
     refine Nat.lt_of_lt_of_le F (Nat.le_trans (Nat.pow_le_pow_right (by omega) (show _<=9 by rw[length_take,length_drop];omega)) (by decide))
    refine aa (λe=>?_) (λe=>?_)
    ·have e:=dT e;have H:s.length-9+j<s.length:=by omega
     have y:=Cl p H;have x4:=ll.1 y;have x1:=qT y;refine⟨_,A3 (h:=B) s (by omega) e,?_⟩;have G:(((s.length-9:Nat):Int)+(j:Int)).toNat=s.length-9+j:=by omega
     rw[G];have R:wrap .u8 ((((s.getD (s.length-9+j) 0).toNat:Nat):Int)-48)=(js (s.getD (s.length-9+j) 0):Nat):=by
      rw[su (by omega) (by omega)];unfold js;omega
     have e2:(s.drop (s.length-9)).getD j 0=s.getD (s.length-9+j) 0:=by
      rw[gD,List.getElem?_drop,gD]
     have N:=EJ (l:=s.drop (s.length-9)) (i:=j) (by rw[length_drop];omega);rw[e2]at N;dsimp only;rw[R,gP (n:=((js (s.getD (s.length-9+j) 0):Nat):Int)) (by omega) (by omega),gP (n:=10*((Num.val ((s.drop (s.length-9)).take j):Nat):Int)) (by omega) (by omega),gP (by omega) (by omega),aD (n:=((s.length-9:Nat):Int)+(j:Int)+1) (by omega) (by omega)];exact jb (q-1) (by omega) ⟨j+1,by omega,by omega,by omega,by rw[N];omega,rfl⟩
    ·have e:=dF e;have K:(s.drop (s.length-9)).take j=s.drop (s.length-9):=take_of_length_le (by rw[length_drop];omega);rw[K]at f⊢;refine⟨_,_,_,sH _,?_⟩;obtain⟨b,m,d,u,V,g7,S,g9⟩:=me w Q O ((Num.val (s.drop (s.length-9)):Nat):Int) (by rw[lM];omega);refine⟨b,m,d,u,V,?_⟩;refine⟨_,Q0 s (show s.length-9<=s.length by omega),?_⟩;refine S7 (s.take (s.length-9)).length (by rw[length_take];omega) ⟨rfl,?_,by rw[length_take];omega,g9,a++[Num.val (s.drop (s.length-9))],?_,?_,?_,?_⟩
     ·rw[all_eq_true]at p⊢;exact λx c=>p x (List.mem_of_mem_take c)
     ·intro x c;rcases mem_append.1 c with c|c
      ·exact C x c
      ·rw[mem_singleton.1 c];exact f
     ·rw[List.length_append,length_take];simp;omega
     ·rw[map_append];exact S
     ·rw[qw,List.length_append,I,IL (s:=s) rfl (by omega),List.length_singleton];rcases lt_or_ge s.length 10 with W|W
      ·rw[show s.length-9=0 by omega,take_zero,jV];simp
      ·rw[show s.length-(s.length-9)=9 by omega,show(10:Nat)^9=1000000000 from rfl,Nat.pow_succ,Nat.mul_add,Nat.mul_assoc];omega)
   exact T _ ⟨0,by omega,by omega,rfl,by simp[jV],rfl⟩
  ·have z:=dF z;obtain rfl:s=[]:=List.eq_nil_of_length_eq_zero (by omega);refine(rR O (by omega)).mono ?_;rintro _ B ⟨M,L,J,rfl,Z,rfl⟩;refine⟨M,L,J,rfl,M,L,J,rfl,?_,Q⟩;rw[I,jV,Nat.mul_zero,Nat.add_zero,<-k4 (by omega) C];exact Z)
 exact G7 l h _ (Y l.length ⟨rfl,hd,k,Ok.refl w,[],by simp,by simpa using k,.inl ⟨rfl,rfl⟩,by simp[Num.bv]⟩)
variable{j:Nat}{P:Program}
theorem NN(x:Int)(h:ae):FW SS 206 [.int .u64 x] h (λv a=>v = .bool false/\a=h):=XB x h _ ⟨by simp,rfl⟩
theorem NM(x:Int)(h:ae):FW SS 165 [.int .i64 x] h (λv a=>v = .bool false/\a=h):=XA x h _ ⟨by simp,rfl⟩
theorem WR(m n:Nat)(h:ae):FW SS 196 [.int .u64 (m:Int),.int .u64 (n:Int)] h (λv c=>v = .int .i64 (eF m n)/\c=h):=by
 refine WQ _ _ h _ ((NN _ h).mono ?_);rintro _ _ ⟨rfl,rfl⟩;refine⟨_,rfl,(NN _ _).mono ?_⟩;rintro _ _ ⟨rfl,rfl⟩;refine⟨_,rfl,aa (λe=>by cases e) (λ_=>aa (λe=>by cases e) (λ_=>aa (λa=>?_) (λa=>aa (λb=>?_) (λb=>?_))))⟩
 ·exact⟨by rw[lk (by have:=dT a;omega)],rfl⟩
 ·exact⟨by rw[lj (by have:=dT b;omega)],rfl⟩
 ·have a:=dF a;have b:=dF b;exact⟨by rw[show m=n by omega,qx],rfl⟩
theorem WO(m n:Nat)(h:ae):FW SS 195 [.int .i64 (m:Int),.int .i64 (n:Int)] h (λv c=>v = .int .i64 (eF m n)/\c=h):=by
 refine WN _ _ h _ ((NM _ h).mono ?_);rintro _ _ ⟨rfl,rfl⟩;refine⟨_,rfl,(NM _ _).mono ?_⟩;rintro _ _ ⟨rfl,rfl⟩;refine⟨_,rfl,aa (λe=>by cases e) (λ_=>aa (λe=>by cases e) (λ_=>aa (λa=>?_) (λa=>aa (λb=>?_) (λb=>?_))))⟩
 ·exact⟨by rw[lk (by have:=dT a;omega)],rfl⟩
 ·exact⟨by rw[lj (by have:=dT b;omega)],rfl⟩
 ·have a:=dF a;have b:=dF b;exact⟨by rw[show m=n by omega,qx],rfl⟩
abbrev BB:Nat:=1000000000
abbrev bl(n:Nat):List Value:=(aQ BB n).map uv
theorem gK:1<BB:=by decide
theorem qn{b:Option Addr}{c:Nat}{x:Nat}(E:Rd h 150 (.slice a n c) (bl x))(D:Rd h 150 (.slice b m k) (bl j))(I:(aQ BB x).length<=10000)(w:Wf h):
  FW SS 186 [.slice a n c,.slice b m k] h (λv u=>v = .int .i64 (eF x j)/\Ok h u):=by
 have O:n=(aQ BB x).length:=by have:=E.len;rwa[lM]at this
 have P:m=(aQ BB j).length:=by have:=D.len;rwa[lM]at this
 have L:=λ(C:(aQ BB x).length=(aQ BB j).length)=>sP a n c b m k (λs i g=>i<=n/\s=n-i/\(aQ BB x).drop (n-i)=(aQ BB j).drop (n-i)/\Ok h g) (λv u=>v = .int .i64 (eF x j)/\Ok h u) (by
  intro s i;intros;rename_i g M;obtain⟨f,o,t,G⟩:=M;have B:wrap .i64 ((n:Int)-1)=(n:Int)-1:=aD (by omega) (by omega);have z:wrap .i64 ((n:Int)-1-(i:Int))=(n:Int)-1-(i:Int):=aD (by omega) (by omega);have A:wrap .i64 ((i:Int)+1)=((i+1:Nat):Int):=by rw[aD (by omega) (by omega)];omega
  rw[B,z,A];have l:=G.room 18;refine aa (λr=>?_) (λr=>?_)
  ·have r:=dT r;have N:((n:Int)-1-(i:Int)).toNat=n-1-i:=by omega
   obtain⟨p,J,H⟩:=E5 (E.ok l) (i:=(n:Int)-1-(i:Int)) (by omega) (by omega);obtain⟨q,K,F⟩:=E5 (D.ok l) (i:=(n:Int)-1-(i:Int)) (by omega) (by omega);rw[N]at H F;refine⟨p,J,_,H,q,K,_,F,(WR _ _ _).mono ?_⟩;rintro _ _ ⟨rfl,rfl⟩;have y:(aQ BB x).drop (n-1-i+1)=(aQ BB j).drop (n-1-i+1):=by rw[show n-1-i+1=n-i by omega];exact t
   refine⟨_,rfl,aa (λd=>?_) (λd=>?_)⟩
   ·refine⟨?_,l⟩;have d:eF ((aQ BB x).getD (n-1-i) 0) ((aQ BB j).getD (n-1-i) 0)≠0:=by simpa using d
    rcases Nat.lt_trichotomy ((aQ BB x).getD (n-1-i) 0) ((aQ BB j).getD (n-1-i) 0)with e|e|e
    ·have:=sU gK (di gK x) C (by omega) y e;rw[ch gK,ch gK]at this;rw[lk e,lk this]
    ·rw[e,qx]at d;exact absurd rfl d
    ·have:=sU gK (di gK j) C.symm (by omega) y.symm e;rw[ch gK,ch gK]at this;rw[lj e,lj this]
   ·have d:eF ((aQ BB x).getD (n-1-i) 0) ((aQ BB j).getD (n-1-i) 0)=0:=by simpa using d
    have e:(aQ BB x).getD (n-1-i) 0=(aQ BB j).getD (n-1-i) 0:=by
     unfold eF at d;split at d
     ·cases d
     ·split at d
      ·assumption
      ·cases d
    refine bY (s-1) (by omega) ⟨by omega,by omega,?_,l⟩;rw[show n-(i+1)=n-1-i by omega,drop_eq_getElem_cons (show n-1-i<(aQ BB x).length by omega),drop_eq_getElem_cons (show n-1-i<(aQ BB j).length by omega),y];congr 1;rw[gD,gE (by omega),gD,gE (by omega)]at e;exact e
  ·have r:=dF r;rw[show n-i=0 by omega,drop_zero,drop_zero]at t;have:x=j:=by rw[<-ch gK x,t,ch gK]
   exact⟨by rw[this,qx],G⟩)
 refine Ex a n c b m k h _ (aa (λf=>(WO _ _ h).mono ?_) (λf=>?_))
 ·rintro _ _ ⟨rfl,rfl⟩;have f:=L4 f;refine⟨_,rfl,?_,Ok.refl w⟩;rcases Nat.lt_trichotomy n m with o|o|o
  ·rw[lk o,lk (lR gK (by omega))]
  ·exact absurd o f
  ·rw[lj o,lj (lR gK (by omega))]
 ·have f:=Lu f;refine L (by omega) n (i:=0) ⟨by omega,by omega,?_,Ok.refl w⟩;rw[Nat.sub_zero,List.drop_of_length_le (by omega),List.drop_of_length_le (by omega)]
theorem Jw{t:TypeId}{p:Value}(o:Ok h g)(a:aj P t h p=some v):aj P t g p=some v:=by
 unfold aj at a⊢;split at a
 ·next c=>
  split at a
  ·next cs _ _ _ b=>rw[o.ext _ _ b];exact a
  ·cases a
 ·cases a
theorem MG{p:Option Addr}(g:aj SS.P 150 h (.pointer p)=some (.int .u64 (k:Int)))(x y z:Nat)(c:x<BB)(e:k<=BB)(l:z<BB):
  FW SS 213 [.int .u64 (x:Int),.int .u64 (y:Int),.int .u64 (z:Int),.pointer p] h (λv d=>v = .tuple ⟨[uv (cO BB k x y z).1,uv (cO BB k x y z).2]⟩/\d=h):=by
 have i:BB=1000000000:=rfl;have j:x*k<=1000000000000000000:=Nat.le_trans (Nat.mul_le_mul (Nat.le_of_lt c) e) (by decide);have a:wrap .u64 ((x:Int)*(k:Int))=((x*k:Nat):Int):=by rw[<-Int.natCast_mul];exact gP (by omega) (by omega)
 have f:wrap .u64 (((x*k:Nat):Int)+(z:Int))=((x*k+z:Nat):Int):=by rw[<-Int.natCast_add];exact gP (by omega) (by omega)
 refine MF _ _ _ p h _ ⟨_,g,?_⟩;dsimp only;rw[a,f];refine⟨_,gO (b:=BB) (by omega) (by decide),_,pS (b:=BB) (by omega) (by omega) (by decide),?_,rfl⟩;unfold uv cO;rw[Int.natCast_emod,Int.natCast_ediv]
theorem Ep{c:Nat}{p:Option Addr}(S:Rd h 150 (.slice a n c) (x.map uv))(C:∀d∈x,d<BB)(x0:x.length<=10000)(hp:aj SS.P 150 h (.pointer p)=some (.int .u64 (k:Int)))(A:0<k)(E:k<=BB)(w:Wf h):
  FW SS 193 [.slice a n c,.slice none 0 0,.func (.func 213) ⟨[]⟩ ⟨[.pointer p]⟩] h (iW h 150 (bl (Num.bv BB x*k))):=by
 have hn:n=x.length:=by have:=S.len;rwa[lM]at this
 have Z:BB=1000000000:=rfl;have hF:∀p q c,c<=BB-1->p<BB->(cO BB k p q c).2<=BB-1:=λp q c hc hp=>by
  unfold cO;dsimp only;have h1:p*k<=999999999*1000000000:=Nat.mul_le_mul (by omega) E;have:(p*k+c)/BB<BB:=Nat.div_lt_of_lt_mul (by rw[Z];omega);omega
 have T:∀j,eG (cO BB k) x [] 0 0 j<=BB-1:=by
  intro j
  induction j with
  |zero=>exact Nat.zero_le _
  |succ j ih=>exact hF _ _ _ ih (aZ (by decide) C _)
 have W:dN (bk (cO BB k) x [] 0 (n+1) 0)=aQ BB (Num.bv BB x*k):=by
  rw[k4 gK (jt (λp q c=>mod_lt _ (by decide)) x [] (n+1) 0 0),K6 gK E A C (n+1) 0 0 (by omega) A (by omega)];rw[drop_zero,Nat.add_zero]
 have L:=sN a n c p ((n:Int)+1) (λz i cy r N P g=>i<=n+1/\z=n+1-i/\cy=(eG (cO BB k) x [] 0 0 i:Nat)/\ei h g 150 (.slice r N P) ((bk (cO BB k) x [] 0 i 0).map uv)/\Ok h g) (iW h 150 (bl (Num.bv BB x*k))) (by
  intro z i cy r N P;intros;rename_i g hi;obtain⟨h1,h2,rfl,F,v⟩:=hi;have K:wrap .i64 ((i:Int)+1)=((i+1:Nat):Int):=by rw[aD (by omega) (by omega)];omega
  rw[K];have l:(bk (cO BB k) x [] 0 i 0).length=i:=eT _ _ _ _ _ _;have f:=ic (cO BB k) x [] i 0 0;rw[Nat.zero_add]at f;have o:eG (cO BB k) x [] 0 0 (i+1)=(cO BB k (x.getD i 0) (([]:List Nat).getD i 0) (eG (cO BB k) x [] 0 0 i)).2:=by
   show(cO BB k (x.getD (0+i) 0) (([]:List Nat).getD (0+i) 0) _).2=_;rw[Nat.zero_add]
  have x1:=T i;have X:=aZ (b:=BB) (by decide) C i;have O:=Jw v hp;have U:=MG O (x.getD i 0) (([]:List Nat).getD i 0) (eG (cO BB k) x [] 0 0 i) X E (by omega);have M:([]:List Nat).getD i 0=0:=by simp
  refine aa (λy=>?_) (λy=>?_)
  ·have y:=dT y;refine aa (λt=>?_) (λt=>?_)
   ·have t:=dT t;obtain⟨q,J,g3⟩:=E5 (S.ok v) (i:=(i:Int)) (by omega) (by omega);rw[Int.toNat_natCast]at g3;refine⟨q,J,_,g3,aa (λs=>?_) (λs=>?_)⟩
    ·have:=dT s;omega
    ·refine(show FW SS 213 [.int .u64 ((x.getD i 0:Nat):Int),.int .u64 ((([]:List Nat).getD i 0:Nat):Int),.int .u64 ((eG (cO BB k) x [] 0 0 i:Nat):Int),.pointer p] g _ from U).mono ?_ |> (λe=>by rw[M]at e;exact e)
     rintro _ _ ⟨rfl,rfl⟩;refine⟨_,_,rfl,_,_,_,sH _,?_⟩;obtain⟨b,m,d,u,D,g7,B,G⟩:=me w v F ((cO BB k (x.getD i 0) (([]:List Nat).getD i 0) (eG (cO BB k) x [] 0 0 i)).1:Nat) (by rw[lM,l];omega);refine⟨b,m,d,u,D,oR (z-1) (by omega) ⟨by omega,by omega,by rw[o],?_,G⟩⟩;rw[f,map_append];exact B
   ·have t:=dF t;have V:x.getD i 0=0:=by rw[gD,List.getElem?_eq_none (by omega)];rfl
    refine aa (λs=>?_) (λs=>?_)
    ·have:=dT s;omega
    ·refine(show FW SS 213 [.int .u64 ((x.getD i 0:Nat):Int),.int .u64 ((([]:List Nat).getD i 0:Nat):Int),.int .u64 ((eG (cO BB k) x [] 0 0 i:Nat):Int),.pointer p] g _ from U).mono ?_ |> (λe=>by rw[M,V]at e;exact e)
     rintro _ _ ⟨rfl,rfl⟩;refine⟨_,_,rfl,_,_,_,sH _,?_⟩;obtain⟨b,m,d,u,D,g7,B,G⟩:=me w v F ((cO BB k (x.getD i 0) (([]:List Nat).getD i 0) (eG (cO BB k) x [] 0 0 i)).1:Nat) (by rw[lM,l];omega);refine⟨b,m,d,u,D,oR (z-1) (by omega) ⟨by omega,by omega,by rw[o],?_,G⟩⟩;rw[f,map_append];exact B
  ·have y:=dF y;obtain rfl:i=n+1:=by omega
   refine(rR F (by rw[l];omega)).mono ?_;rintro _ J ⟨R,Q,I,rfl,Y,rfl⟩;rw[W]at Y;exact⟨R,Q,I,rfl,R,Q,I,rfl,Y,v⟩)
 refine Eo a n c p h _ ⟨_,tp _ _ _,?_⟩;have H:(if(0:Int)>(n:Int)then(0:Int)else(n:Int))=(n:Int):=if_neg (by omega);have hw:wrap .i64 ((n:Int)+1)=(n:Int)+1:=aD (by omega) (by omega);dsimp only;rw[H,hw];exact L (n+1) (i:=0) ⟨by omega,by omega,rfl,.inl ⟨rfl,rfl⟩,Ok.refl w⟩
noncomputable def bA:FD:=cA Tryz.f203 [([1,1,1,1,0,0,0],[0,1,5,7,8]),([1,1,1,1,1,1,0,1,0,0],[0,1,5,7,9,10,87,88]),([1,1,1,1,1,1,1,1,1,0,1,0,0],[0,1,5,7,10,128,129])]
abbrev eL(a:OA)(n c:Nat)(b:OA)(m d:Nat)(q e:Int):LV:=[(.slice a n c),(.slice b m d),(iA m),(.int .u64 q),(.int .u64 e)]
abbrev dr(a:OA)(n c:Nat)(b:OA)(m d:Nat)(q e:Int)(i:Nat)(f cy:Int):LV:=[(.slice a n c),(.slice b m d),(iA m),(.int .u64 q),(.int .u64 f),(.int .u64 cy),(.int .i64 e),(iA i)]
abbrev gV(a:OA)(n c:Nat)(b:OA)(m d:Nat)(q e:Int)(i:Nat)(cy:Int):LV:=[(.slice a n c),(.slice b m d),(iA m),(.int .u64 q),(.int .u64 cy),(.int .i64 e),(iA i)]
theorem JC(a:OA)(n c:Nat)(b:OA)(m d:Nat)(h:ae)(Q:VH)(r:iP 177 (.slice a n c) (iA m) λq=>xI .u64 (aj SS.P 150 (room h 12) (.pointer (some q))) λp=>iP 177 (.slice a n c) (.int .i64 (wrap .i64 ((m:Int)-1))) λo=>xI .u64 (aj SS.P 150 (room h 12) (.pointer (some o))) λl=>iP 177 (.slice b m d) (.int .i64 (wrap .i64 ((m:Int)-1))) λk=>xI .u64 (aj SS.P 150 (room (room h 12) 16) (.pointer (some k))) λj=>xI .u64 (ay SS.P .quo 150 (.int .u64 (wrap .u64 (wrap .u64 (p*1000000000)+l))) (.int .u64 j)) λi=>iP 177 (.slice b m d) (.int .i64 (wrap .i64 ((m:Int)-1))) λg=>xI .u64 (aj SS.P 150 (room (room h 12) 16) (.pointer (some g))) λf=>xI .u64 (ay SS.P .rem 150 (.int .u64 (wrap .u64 (wrap .u64 (p*1000000000)+l))) (.int .u64 f)) λe=>LL SS bA [1,1,1,1,0,0,0] (eL a n c b m d i e) (room (room h 12) 16) (KK SS bA [1,1,1,1,0,0] [] (EE SS bA Q))):FW SS 203 [(.slice a n c),(.slice b m d)] h Q:=cN bA Tryz.func203 (ai r)
theorem uU(a:OA)(n c:Nat)(b:OA)(m d:Nat)  (o:Nat->Int->Int->ae->Prop) (Q:VH) (step:∀(p:Nat)(q l:Int)(s:Nat->Value)(h:ae),o p q l h->au (decide ((q:Int)>=1000000000)) (iP 177 (.slice b m d) (.int .i64 (wrap .i64 ((m:Int)-1))) λf=>xI .u64 (aj SS.P 150 (room h 28) (.pointer (some f))) λe=>au (decide ((wrap .u64 (l+e):Int)>=1000000000)) (au (decide ((wrap .u64 (q-1):Int)<1000000000)) (LL SS bA [1,1,1,1,1,1,0,1,0,0] (dr a n c b m d (wrap .u64 (q-1)) (wrap .i64 ((m:Int)+1)) 0 0 0) (room h 28) (KK SS bA [1,1,1,1,1,1,0,1,0] [] (EE SS bA Q))) (aB (qR (eL a n c b m d) o) p [(.slice a n c),(.slice b m d),(iA m),(.int .u64 (wrap .u64 (q-1))),(.int .u64 (wrap .u64 (l+e)))] (room h 28))) (aB (qR (eL a n c b m d) o) p [(.slice a n c),(.slice b m d),(iA m),(.int .u64 (wrap .u64 (q-1))),(.int .u64 (wrap .u64 (l+e)))] (room h 28))) (au (decide (((m:Int):Int)>1)) (au (decide ((l:Int)<1000000000)) (iP 177 (.slice b m d) (.int .i64 (wrap .i64 ((m:Int)-2))) λk=>xI .u64 (aj SS.P 150 (room h 28) (.pointer (some k))) λj=>iP 177 (.slice a n c) (.int .i64 (wrap .i64 ((m:Int)-2))) λi=>xI .u64 (aj SS.P 150 (room h 28) (.pointer (some i))) λg=>au (decide ((wrap .u64 (q*j):Int)>wrap .u64 (wrap .u64 (l*1000000000)+g))) (iP 177 (.slice b m d) (.int .i64 (wrap .i64 ((m:Int)-1))) λf=>xI .u64 (aj SS.P 150 (room h 28) (.pointer (some f))) λe=>au (decide ((wrap .u64 (l+e):Int)>=1000000000)) (au (decide ((wrap .u64 (q-1):Int)<1000000000)) (LL SS bA [1,1,1,1,1,1,0,1,0,0] (dr a n c b m d (wrap .u64 (q-1)) (wrap .i64 ((m:Int)+1)) 0 0 0) (room h 28) (KK SS bA [1,1,1,1,1,1,0,1,0] [] (EE SS bA Q))) (aB (qR (eL a n c b m d) o) p [(.slice a n c),(.slice b m d),(iA m),(.int .u64 (wrap .u64 (q-1))),(.int .u64 (wrap .u64 (l+e)))] (room h 28))) (aB (qR (eL a n c b m d) o) p [(.slice a n c),(.slice b m d),(iA m),(.int .u64 (wrap .u64 (q-1))),(.int .u64 (wrap .u64 (l+e)))] (room h 28))) (LL SS bA [1,1,1,1,1,1,0,1,0,0] (dr a n c b m d q (wrap .i64 ((m:Int)+1)) 0 0 0) (room h 28) (KK SS bA [1,1,1,1,1,1,0,1,0] [] (EE SS bA Q)))) (LL SS bA [1,1,1,1,1,1,0,1,0,0] (dr a n c b m d q (wrap .i64 ((m:Int)+1)) 0 0 0) (room h 28) (KK SS bA [1,1,1,1,1,1,0,1,0] [] (EE SS bA Q)))) (LL SS bA [1,1,1,1,1,1,0,1,0,0] (dr a n c b m d q (wrap .i64 ((m:Int)+1)) 0 0 0) (room h 28) (KK SS bA [1,1,1,1,1,1,0,1,0] [] (EE SS bA Q))))) (p:Nat) {q l:Int} {h:ae} (r:o p q l h):LL SS bA [1,1,1,1,0,0,0] (eL a n c b m d q l) h (KK SS bA [1,1,1,1,0,0] [] (EE SS bA Q)):=
 nE (eL a n c b m d) o (λp q l s h r=>ai (step p q l s h r)) p r
theorem uV(a:OA)(n c:Nat)(b:OA)(m d:Nat)(q t:Int)(v:Nat->Nat->Int->Int->ae->Prop)(Q:VH)(step:∀(w:Nat) (i:Nat) (u cy:Int) (y:Nat->Value) (h:ae),v w i u cy h->au (decide (((i:Int):Int)<t)) (au (decide (((i:Int):Int)<(m:Int))) (iP 177 (.slice b m d) (iA i) λs=>xI .u64 (aj SS.P 150 h (.pointer (some s))) λr=>iP 177 (.slice a n c) (iA i) λp=>xI .u64 (aj SS.P 150 h (.pointer (some p))) λo=>xI .u64 (ay SS.P .rem 150 (.int .u64 (wrap .u64 (cy+wrap .u64 (q*r)))) (.int .u64 1000000000)) λl=>xI .u64 (ay SS.P .rem 150 (.int .u64 (wrap .u64 (wrap .u64 (wrap .u64 (o+1000000000)-l)-u))) (.int .u64 1000000000)) λk=>xI .u64 (ay SS.P .quo 150 (.int .u64 (wrap .u64 (wrap .u64 (wrap .u64 (o+1000000000)-l)-u))) (.int .u64 1000000000)) λj=>xI .u64 (ay SS.P .quo 150 (.int .u64 (wrap .u64 (cy+wrap .u64 (q*r)))) (.int .u64 1000000000)) λg=>iP 177 (.slice a n c) (iA i) λf=>xU (ah SS.P 150 (.pointer (some f)) (.int .u64 k) h) h λ_ e=>aB (Al (dr a n c b m d q t) v) w [(.slice a n c),(.slice b m d),(iA m),(.int .u64 q),(.int .u64 (wrap .u64 (1-j))),(.int .u64 g),(.int .i64 t),(.int .i64 (wrap .i64 ((i:Int)+1)))] e) (iP 177 (.slice a n c) (iA i) λp=>xI .u64 (aj SS.P 150 h (.pointer (some p))) λo=>xI .u64 (ay SS.P .rem 150 (.int .u64 cy) (.int .u64 1000000000)) λl=>xI .u64 (ay SS.P .rem 150 (.int .u64 (wrap .u64 (wrap .u64 (wrap .u64 (o+1000000000)-l)-u))) (.int .u64 1000000000)) λk=>xI .u64 (ay SS.P .quo 150 (.int .u64 (wrap .u64 (wrap .u64 (wrap .u64 (o+1000000000)-l)-u))) (.int .u64 1000000000)) λj=>xI .u64 (ay SS.P .quo 150 (.int .u64 cy) (.int .u64 1000000000)) λg=>iP 177 (.slice a n c) (iA i) λf=>xU (ah SS.P 150 (.pointer (some f)) (.int .u64 k) h) h λ_ e=>aB (Al (dr a n c b m d q t) v) w [(.slice a n c),(.slice b m d),(iA m),(.int .u64 q),(.int .u64 (wrap .u64 (1-j))),(.int .u64 g),(.int .i64 t),(.int .i64 (wrap .i64 ((i:Int)+1)))] e)) (au (((u:Int)==0)) (Q (.int .u64 q) h) (LL SS bA [1,1,1,1,1,1,1,1,1,0,1,0,0] (gV a n c b m d q (wrap .i64 ((m:Int)+1)) 0 0) h (KK SS bA [1,1,1,1,1,1,1,1,1,0,1,0] [] (EE SS bA Q)))))(w:Nat){i:Nat}{u cy:Int}{h:ae}(x:v w i u cy h):LL SS bA [1,1,1,1,1,1,0,1,0,0] (dr a n c b m d q t i u cy) h (KK SS bA [1,1,1,1,1,1,0,1,0] [] (EE SS bA Q)):=
 NZ (dr a n c b m d q t) v (λw i u cy y h x=>ai (step w i u cy y h x)) w x
theorem uW(a:OA)(n c:Nat)(b:OA)(m d:Nat)(q r:Int)(s:Nat->Nat->Int->ae->Prop)(Q:VH)(step:∀(t:Nat) (i:Nat) (cy:Int) (v:Nat->Value) (h:ae),s t i cy h->au (decide (((i:Int):Int)<r)) (iP 177 (.slice a n c) (iA i) λp=>xI .u64 (aj SS.P 150 h (.pointer (some p))) λo=>au (decide (((i:Int):Int)<(m:Int))) (iP 177 (.slice b m d) (iA i) λl=>xI .u64 (aj SS.P 150 h (.pointer (some l))) λk=>xI .u64 (ay SS.P .rem 150 (.int .u64 (wrap .u64 (wrap .u64 (o+cy)+k))) (.int .u64 1000000000)) λj=>xI .u64 (ay SS.P .quo 150 (.int .u64 (wrap .u64 (wrap .u64 (o+cy)+k))) (.int .u64 1000000000)) λg=>iP 177 (.slice a n c) (iA i) λf=>xU (ah SS.P 150 (.pointer (some f)) (.int .u64 j) h) h λ_ e=>aB (qR (gV a n c b m d q r) s) t [(.slice a n c),(.slice b m d),(iA m),(.int .u64 q),(.int .u64 g),(.int .i64 r),(.int .i64 (wrap .i64 ((i:Int)+1)))] e) (xI .u64 (ay SS.P .rem 150 (.int .u64 (wrap .u64 (o+cy))) (.int .u64 1000000000)) λj=>xI .u64 (ay SS.P .quo 150 (.int .u64 (wrap .u64 (o+cy))) (.int .u64 1000000000)) λg=>iP 177 (.slice a n c) (iA i) λf=>xU (ah SS.P 150 (.pointer (some f)) (.int .u64 j) h) h λ_ e=>aB (qR (gV a n c b m d q r) s) t [(.slice a n c),(.slice b m d),(iA m),(.int .u64 q),(.int .u64 g),(.int .i64 r),(.int .i64 (wrap .i64 ((i:Int)+1)))] e)) (Q (.int .u64 (wrap .u64 (q-1))) h))(t:Nat){i:Nat}{cy:Int}{h:ae}(u:s t i cy h):LL SS bA [1,1,1,1,1,1,1,1,1,0,1,0,0] (gV a n c b m d q r i cy) h (KK SS bA [1,1,1,1,1,1,1,1,1,0,1,0] [] (EE SS bA Q)):=
 nE (gV a n c b m d q r) s (λt i cy v h u=>ai (step t i cy v h u)) t u
noncomputable def cm:FD:=cA Tryz.f189 [([1,1,1,1,1,0,0,0],[0,1,6,7,8,9]),([1,1,1,1,1,1,1,0,1,0,0],[0,1,4,6,7,8,9,49,50]),([1,1,1,1,1,1,1,1,1,1,0,1,0,0],[4,5,7,12,74,75])]
abbrev jd(a:OA)(n c:Nat)(b:OA)(m d:Nat)(j:Int)(e:OA)(f h:Nat)(r:OA)(g i:Nat):LV:=[(.slice a n c),(.slice b m d),(iA m),(.int .u64 j),(.slice r g i),(.slice e f h)]
abbrev je(a:OA)(n c:Nat)(b:OA)(m d:Nat)(p:Int)(g:OA)(q l:Nat)(r:OA)(j o:Nat)(e:OA)(h k:Nat)(f:Int)(i:Nat):LV:=[(.slice a n c),(.slice b m d),(.slice g q l),(iA m),(.int .u64 p),(.slice r j o),(.slice e h k),(.int .i64 f),(iA i)]
abbrev jf(e:Int)(g:OA)(f c:Nat)(r:OA)(b d:Nat)(a:Int)(i:Nat)(left:Int):LV:=[(.slice g f c),(.slice r b d),(.int .u64 e),(.int .u64 left),(.int .i64 a),(iA i)]
theorem G8(a:OA)(n c:Nat)(b:OA)(m d:Nat)(h:ae)(Q:VH)(w:FW SS 186 [(.slice a n c),(.slice b m d)] h λu v=>yI .i64 u λt=>au (decide ((t:Int)<0)) (Q (.tuple ⟨[nA,(.slice a n c)]⟩) v) (iP 177 (.slice b m d) (.int .i64 (wrap .i64 ((m:Int)-1))) λs=>xI .u64 (aj SS.P 150 v (.pointer (some s))) λr=>xI .u64 (ay SS.P .quo 150 (.int .u64 1000000000) (.int .u64 (wrap .u64 (r+1)))) λq=>FW SS 202 [(.slice a n c),(.int .u64 q)] v λo p=>yL o λj k l=>FW SS 202 [(.slice b m d),(.int .u64 q)] p λh i=>yL h λe f g=>LL SS cm [1,1,1,1,1,0,0,0] (jd a n c b m d q e f g j k l) i (KK SS cm [1,1,1,1,1,0,0] [] (EE SS cm Q)))):FW SS 189 [(.slice a n c),(.slice b m d)] h Q:=cN cm Tryz.func189 (ai w)
theorem tw(a:OA)(n c:Nat)(b:OA)(m d:Nat)(v:Int)(e:OA)(t u:Nat)(s:Nat->OA->Nat->Nat->ae->Prop)(Q:VH)(step:∀(q:Nat) (r:OA) (o p:Nat) (x:Nat->Value) (h:ae),s q r o p h->au (decide (((o:Int):Int)<=(n:Int))) (xR (aF SS.P 177 1 [(0,(.int .u64 0))]) h λ_ j k l=>xE (bF SS.P 177 177 (.slice r o p) (sA (h.next) j k) l) l λf g h _ i=>aB (Al (jd a n c b m d v e t u) s) q [(.slice a n c),(.slice b m d),(iA m),(.int .u64 v),(.slice f g h),(.slice e t u)] i) (xR (bW SS.P 177 (.int .i64 (wrap .i64 ((o:Int)-(m:Int)))) (.int .i64 (wrap .i64 ((o:Int)-(m:Int))))) h λ_ f g i=>LL SS cm [1,1,1,1,1,1,1,0,1,0,0] (je a n c b m d v (some ⟨h.next,0,none⟩) f g r o p e t u (f:Int) 0) i (KK SS cm [1,1,1,1,1,1,1,0,1,0] [] (EE SS cm Q))))(q:Nat){r:OA}{o p:Nat}{h:ae}(w:s q r o p h):LL SS cm [1,1,1,1,1,0,0,0] (jd a n c b m d v e t u r o p) h (KK SS cm [1,1,1,1,1,0,0] [] (EE SS cm Q)):=
 NZ (jd a n c b m d v e t u) s (λq r o p x h w=>ai (step q r o p x h w)) q w
theorem tx(a:OA)(n c:Nat)(b:OA)(m d:Nat)(B:Int)(g:OA)(s x:Nat)(r:OA)(w y:Nat)(e:OA)(z A:Nat)(t:Int)(v:Nat->Nat->ae->Prop)(Q:VH)(step:∀(u:Nat) (i:Nat) (D:Nat->Value) (h:ae),v u i h->au (decide (((i:Int):Int)<t)) (xL (bP SS.P 177 (.slice r w y) (some (.int .i64 (wrap .i64 (wrap .i64 ((s:Int)-1)-(i:Int))))) (some (.int .i64 (wrap .i64 (wrap .i64 (wrap .i64 (wrap .i64 ((s:Int)-1)-(i:Int))+(m:Int))+1)))) none h) λo p q=>FW SS 203 [(.slice o p q),(.slice e z A)] h λk l=>yI .u64 k λj=>xP (ax SS.P 177 (.slice g s x) (.int .i64 (wrap .i64 (wrap .i64 ((s:Int)-1)-(i:Int))))) λh=>xU (ah SS.P 150 (.pointer (some h)) (.int .u64 j) l) l λ_ f=>aB (eR (je a n c b m d B g s x r w y e z A t) v) u [(.slice a n c),(.slice b m d),(.slice g s x),(iA m),(.int .u64 B),(.slice r w y),(.slice e z A),(.int .i64 t),(.int .i64 (wrap .i64 ((i:Int)+1)))] f) (FW SS 174 [(.slice r w y)] h λd e=>yL d λa b c=>LL SS cm [1,1,1,1,1,1,1,1,1,1,0,1,0,0] (jf B g s x a b c (b:Int) 0 0) e (KK SS cm [1,1,1,1,1,1,1,1,1,1,0,1,0] [] (EE SS cm Q))))(u:Nat){i:Nat}{h:ae}(C:v u i h):LL SS cm [1,1,1,1,1,1,1,0,1,0,0] (je a n c b m d B g s x r w y e z A t i) h (KK SS cm [1,1,1,1,1,1,1,0,1,0] [] (EE SS cm Q)):=
 cY (je a n c b m d B g s x r w y e z A t) v (λu i D h C=>ai (step u i D h C)) u C
theorem tz(a:OA)(n c:Nat)(b:OA)(m d:Nat)(s:Int)(g:OA)(u t:Nat)(r:OA)(k p:Nat)(l:Int)(q:Nat->Nat->Int->ae->Prop)(Q:VH)(step:∀(o:Nat) (i:Nat) (left:Int) (w:Nat->Value) (h:ae),q o i left h->au (decide (((i:Int):Int)<l)) (xP (ax SS.P 177 (.slice r k p) (.int .i64 (wrap .i64 (wrap .i64 ((k:Int)-1)-(i:Int))))) λf=>xI .u64 (aj SS.P 150 h (.pointer (some f))) λe=>xI .u64 (ay SS.P .quo 150 (.int .u64 (wrap .u64 (wrap .u64 (left*1000000000)+e))) (.int .u64 s)) λd=>xI .u64 (ay SS.P .rem 150 (.int .u64 (wrap .u64 (wrap .u64 (left*1000000000)+e))) (.int .u64 s)) λc=>xP (ax SS.P 177 (.slice r k p) (.int .i64 (wrap .i64 (wrap .i64 ((k:Int)-1)-(i:Int))))) λb=>xU (ah SS.P 150 (.pointer (some b)) (.int .u64 d) (room h 11)) (room h 11) λ_ a=>aB (qR (jf s g u t r k p l) q) o [(.slice g u t),(.slice r k p),(.int .u64 s),(.int .u64 c),(.int .i64 l),(.int .i64 (wrap .i64 ((i:Int)+1)))] a) (FW SS 174 [(.slice g u t)] h λi j=>yL i λf g h=>FW SS 174 [(.slice r k p)] j λd e=>yL d λa b c=>Q (.tuple ⟨[(.slice f g h),(.slice a b c)]⟩) e))(o:Nat){i:Nat}{left:Int}{h:ae}(v:q o i left h):LL SS cm [1,1,1,1,1,1,1,1,1,1,0,1,0,0] (jf s g u t r k p l i left) h (KK SS cm [1,1,1,1,1,1,1,1,1,1,0,1,0] [] (EE SS cm Q)):=
 nE (jf s g u t r k p l) q (λo i left w h v=>ai (step o i left w h v)) o v
section
def cF(cs:List Value)(off:Nat)(W:List Nat):List Value:=cs.take off++W.map uv++cs.drop (off+W.length)
structure Iw(h:ae)(k:Nat)(h':ae):Prop where
 wf:Wf h'
 kI:∀j B,j≠k->h.get j=some B->h'.get j=some B
 nx:h.next<=h'.next
theorem Iw.refl{k:Nat}(w:Wf h):Iw h k h:=⟨w,λ_ _ _ h=>h,Nat.le_refl _⟩
theorem Iw.room{h a:ae}{k:Nat}(o:Iw h k a)(n:Nat):Iw h k (room a n):=⟨λj B b=>Nat.lt_of_lt_of_le (o.wf j B b) (Nat.le_add_right _ _),o.kI,Nat.le_trans o.nx (Nat.le_add_right _ _)⟩
theorem Iw.set{c:ae}{k:Nat}(o:Iw h k c)(d:k<c.next)(B:dP):Iw h k (c.set k B):=by
 refine⟨λj C a=>?_,λj C b a=>?_,o.nx⟩
 ·rw[ae.aw]at a;split at a
  ·next e=>rw[e];exact d
  ·exact o.wf _ _ a
 ·rw[ae.aw,if_neg b];exact o.kI _ _ b a
theorem xm{k off c:Nat}{i:Int}(b:0<=i)(a:i<n):ax SS.P 177 (.slice (some ⟨k,off,none⟩) n c) (.int .i64 i)=some (.pointer (some ⟨k,off+i.toNat,none⟩)):=by
 unfold ax;rw[AM];dsimp only;rw[D7];dsimp only;rw[if_pos ⟨b,a⟩,Nat.mul_one,dv]
section
variable {g:ae} {k off:Nat} {cs:List Value} {W:List Nat}
theorem CY(b:g.get k=some (.cells (cF cs off W) 150 1 true))(c:off+W.length<=cs.length){i:Nat}(a:i<W.length):aj SS.P 150 g (.pointer (some ⟨k,off+i,none⟩))=some (.int .u64 (W.getD i 0:Nat)):=by
 unfold aj;rw[Od];dsimp only;rw[b];dsimp only;rw[Nl];simp only[Bool.false_eq_true,if_false];unfold cF;rw[append_assoc,List.getElem?_append_right (by rw[length_take];omega),length_take,Nat.min_eq_left (by omega),Nat.add_sub_cancel_left,List.getElem?_append_left (by rw[lM];exact a),getElem?_map,gE a,gD,gE a];rfl
theorem DC(h:g.get k=some (.cells (cF cs off W) 150 1 true))(j:off+W.length<=cs.length){i:Nat}(b:i<W.length)(d:Nat):ah SS.P 150 (.pointer (some ⟨k,off+i,none⟩)) (.int .u64 (d:Int)) g=some (undef,.set k (.cells (cF cs off (W.set i d)) 150 1 true)):=by
 show(if aE SS.P 150=some 1 then(storeAt g k (off+i) [.int .u64 (d:Int)]).map λu=>(undef,u)else none)=_;rw[if_pos D7];unfold storeAt;rw[h];dsimp only;have a:(cF cs off W).length=cs.length:=by
  unfold cF;simp only[List.length_append,length_take,lM,length_drop];omega
 rw[if_pos ⟨by rw[a];simp;omega,rfl⟩];have e:(cF cs off W).take (off+i)++[Value.int .u64 (d:Int)]++(cF cs off W).drop (off+i+[Value.int .u64 (d:Int)].length)=cF cs off (W.set i d):=by
  have f:(cs.take off).length=off:=by rw[length_take];omega
  have c:(cF cs off W).take (off+i)++[Value.int .u64 (d:Int)]++(cF cs off W).drop (off+i+[Value.int .u64 (d:Int)].length)=(cF cs off W).set (off+i) (.int .u64 (d:Int)):=by
   rw[List.set_eq_take_append_cons_drop,if_pos (by rw[a];omega),append_assoc];rfl
  rw[c];unfold cF;rw[append_assoc,List.set_append,if_neg (by omega),f,Nat.add_sub_cancel_left,List.set_append,if_pos (by rw[lM];exact b),length_set,append_assoc,map_set];rfl
 rw[e];rfl
end
end
end Go.Proofs.YtaaichlgdgjgjaaGreatDoor
end
