/- Laws and walks that the proof leans on (part 3): NumRatV; NumStar; NumSemi; NumSem; NumOps; NumNet and others. No condition. -/
import Derived.Test.YtaaichlgdgjgjaaGreatDoorPart2
import Derived.Test.YtaaichlgdgjgjaaGreatDoorProg
set_option linter.unusedVariables false
set_option linter.unusedSimpArgs false
set_option maxRecDepth 100000
open List (all_eq_true append_assoc drop_eq_getElem_cons drop_zero getElem?_map getElem_mem length_drop length_replicate length_set length_take map_append map_set mem_append mem_cons_self mem_singleton take_of_length_le take_zero)
open Nat (lt_irrefl lt_or_ge mod_lt mul_pos ne_of_gt)
open Option (getD_some)
open Go.IntKind (wrap)
section
namespace Go.Num
variable{n:Nat}{m:Nat}
def eR(s:Bool)(n:Nat):Int:=if s=true then -(n:Int)else n
def bh(a:List UInt8):Rat:=mkRat (eR (isNeg a) (val (numOf a))) (val (ak a))
def cz(s:Bool)(n d:Nat):List UInt8:=(if s=true/\n≠0 then[45]else[])++(ag n++(if d=1 then[]else 47::ag d))
theorem Gh(n:Nat):∃c r,ag n=c::r/\bM c=true:=by
 have h:=cO n
 cases e:ag n with
 |nil=>grind[qZ]
 |cons c r=>grind
theorem BV{c:UInt8}(r:List UInt8):∀{l:List UInt8},(∀x∈l,x≠c)->cx c (l++r)=l.length+cx c r
 |[],_=>by simp
 |x::l,h=>by
  show(if x=c then 0 else cx c (l++r)+1)=_;rw[if_neg (h x (mem_cons_self ..)),BV r λy a=>h y (List.mem_cons_of_mem _ a),List.length_cons];omega
theorem Q3{c:UInt8}(b:bM c=false):∀x∈ag n,x≠c:=λx a e=>by grind[cO]
structure BG(a:List UInt8)(s:Bool)(n d:Nat):Prop where
 neg:isNeg a=s
 num:numOf a=ag n
 den:ak a=ag d
 str:bo a=decide (d≠1)
theorem HQ(s:Bool)(n d:Nat):isNeg (cz s n d)=decide (s=true/\n≠0)/\bm (cz s n d)=ag n++(if d=1 then[]else 47::ag d):=by
 have b:isNeg (cz s n d)=decide (s=true/\n≠0):=by
  unfold cz isNeg;by_cases c:s=true/\n≠0
  ·rw[if_pos c,decide_eq_true c];rfl
  ·rw[if_neg c,decide_eq_false c];obtain⟨x,r,e,a⟩:=Gh n;rw[e];show(some x==some 45)=false;have:x≠45:=λe=>by rw[e]at a;exact absurd a (by decide)
   simpa using this
 refine⟨b,?_⟩;unfold bm;rw[b];unfold cz
 grind
theorem wG(s:Bool)(n d:Nat):BG (cz s n d) (decide (s=true/\n≠0)) n d:=by
 obtain⟨b,e⟩:=HQ s n d;have f:cx 47 (ag n++(if d=1 then[]else 47::ag d))=(ag n).length:=by
  rw[BV _ (Q3 (by decide))];split
  ·rfl
  ·rfl
 have a:bo (cz s n d)=decide (d≠1):=by
  unfold bo;rw[e,f];by_cases c:d=1
  ·grind
  ·grind
 refine⟨b,?_,?_,a⟩
 ·simp_all[numOf]
 ·unfold ak;rw[a];by_cases c:d=1
  all_goals simp_all[Ai]
theorem qW(s:Bool):eR s 0=0:=by grind[eR]
theorem NV(s:Bool)(n:Nat):eR (decide (s=true/\n≠0)) n=eR s n:=by
 by_cases c:n=0
 ·subst c;rw[qW,qW]
 simp_all
theorem tT(s:Bool)(n:Nat):(eR s n).natAbs=n:=by grind[eR]
theorem BG.val{a:List UInt8}{s:Bool}(p:BG a s n m):bh a=mkRat (eR s n) m:=by
 unfold bh;rw[p.neg,p.num,p.den,bt,bt]
theorem B0(s:Bool)(n d:Nat):bh (cz s n d)=mkRat (eR s n) d:=by rw[(wG s n d).val,NV]
theorem Ag{s:Bool}(c:(ag n).length<=400)(e:(ag m).length<=400)(d:0<m)(f:Nat.gcd n m=1):ay (cz s n m)=true:=by
 have p:=wG s n m;have b:∀a,(ag a).length<=400->valid (ag a)=true:=λa h=>fV.2 ⟨uS a,by omega⟩;refine aY.2 ⟨?_,?_,?_,?_,?_,?_,?_⟩
 ·rw[p.num];grind
 ·rw[p.den];grind
 ·rw[p.num];omega
 ·rw[p.den];omega
 ·rw[p.neg,p.num,bI]
  grind
 ·rw[p.str,p.den,bI,ef]
  grind
 ·rw[p.num,p.den,bt,bt];omega
theorem gC.den_pos{a:List UInt8}(r:gC a):0<val (ak a):=by
 refine Nat.pos_of_ne_zero λe=>?_;have h:=(ia r.den).2 e
 cases b:bo a with
 |true=>exact r.fr ⟨b,.inl h⟩
 |false=>grind[ak]
theorem gC.txt{a:List UInt8}(r:gC a):a=cz (isNeg a) (val (numOf a)) (val (ak a)):=by
 obtain⟨n,o,_,k⟩:=cn r.num;obtain⟨d,q,_,f⟩:=cn r.den;have s:(if isNeg a=true/\val (numOf a)≠0 then[45]else([]:List UInt8))=if isNeg a=true then[45]else[]:=by
  by_cases c:isNeg a=true
  ·rw[if_pos c,if_pos ⟨c,λe=>r.neg ⟨c,(ia r.num).2 e⟩⟩]
  ·rw[if_neg c,if_neg λh=>c h.1]
 have u:a=(if isNeg a=true then[45]else[])++bm a:=by
  unfold bm;by_cases c:isNeg a=true
  ·rw[if_pos c,if_pos c];unfold isNeg at c
   cases a with
   |nil=>cases c
   |cons x l=>
    have:x=45:=by simpa using c
    rw[this];rfl
  ·rw[if_neg c,if_neg c];rfl
 have g:bo a=true↔val (ak a)≠1:=by
  constructor
  ·exact λh e=>r.fr ⟨h,.inr ((s7 r.den).2 e)⟩
  ·intro h
   cases c:bo a with
   |true=>rfl
   |false=>
    refine absurd ?_ h;unfold ak;rw[c];exact Ie
 have t:bm a=ag (val (numOf a))++(if val (ak a)=1 then[]else 47::ag (val (ak a))):=by
  rw[k,f,<-o,<-q];by_cases c:bo a=true
  ·rw[if_neg (by rw[<-f];exact g.1 c)];have i:ak a=(bm a).drop (cx 47 (bm a)+1):=by unfold ak;rw[if_pos c]
   rw[i];unfold numOf;unfold bo at c;have c:=dT c;have b:∀{l:List UInt8},cx 47 l<l.length->l=l.take (cx 47 l)++47::l.drop (cx 47 l+1):=λ{l}=>by
    induction l with
    |nil=>intro h;simp at h
    | cons x l p=>
     intro h;by_cases e:x=47
     ·have:cx 47 (x::l)=0:=by unfold cx;rw[if_pos e]
      rw[this,e];rfl
     ·have j:cx 47 (x::l)=cx 47 l+1:=by unfold cx;rw[if_neg e];cases l<;>rfl
      rw[j,List.take_succ_cons,List.drop_succ_cons,List.cons_append,<-p (by rw[j]at h;simpa using h)]
   exact b c
  ·have m:val (ak a)=1:=Classical.byContradiction λh=>c (g.2 h);rw[if_pos (by rw[<-f];exact m),List.append_nil];unfold numOf;unfold bo at c;rw[take_of_length_le (by simp at c;exact c)]
 grind[cz]
theorem gC.vT{a:List UInt8}(r:gC a):(bh a).num=eR (isNeg a) (val (numOf a)):=by
 unfold bh;rw[Rat.num_mkRat,if_neg (ne_of_gt r.den_pos),tT,Nat.gcd_comm,r.one];simp
theorem gC.Gz{a:List UInt8}(r:gC a):(bh a).den=val (ak a):=by
 unfold bh;rw[Rat.den_mkRat,if_neg (ne_of_gt r.den_pos),tT,Nat.gcd_comm,r.one];simp
theorem vG{a b:List UInt8}(m:ay a=true)(i:ay b=true)(e:bh a=bh b):a=b:=by
 have f:=aY.1 m;have d:=aY.1 i;have g:=f.vT;have h:=f.Gz;rw[e,d.vT]at g;rw[e,d.Gz]at h;have l:val (numOf a)=val (numOf b):=by
  have:=congrArg Int.natAbs g;rw[tT,tT]at this;exact this.symm
 rw[f.txt,d.txt,<-h,<-l];congr 1;by_cases n:val (numOf a)=0
 ·have j:isNeg a=false:=by
   cases c:isNeg a with
   |false=>rfl
   |true=>exact absurd ⟨c,(ia f.num).2 n⟩ f.neg
  have k:isNeg b=false:=by
   cases c:isNeg b with
   |false=>rfl
   |true=>exact absurd ⟨c,(ia d.num).2 (by omega)⟩ d.neg
  rw[j,k]
 grind[eR]
theorem B2(s:Bool)(A:Nat)(t:Bool)(B:Nat):eR (dB s A t B).1 (dB s A t B).2=eR s A+eR t B:=by
 unfold dB eR
 grind
theorem EJ(s:Bool)(n:Nat):eR (!s) n = - eR s n:=by grind[eR]
theorem Q7{s:Bool}:eR s n<0↔s=true/\n≠0:=by grind[eR]
theorem H6{s:Bool}:eR s n=0↔n=0:=by grind[eR]
theorem EI(s t:Bool)(m n:Nat):eR (s !=t) (m*n)=eR s m*eR t n:=by unfold eR;grind
theorem me(s:Bool)(m n:Nat):eR s (m*n)=eR s m*n:=by grind[eR]
theorem Ad{a b:List UInt8}(f:ay a=true)(c:ay b=true):(cW a b<0↔bh a<bh b)/\(cW a b=0↔bh a=bh b):=by
 have e:=aY.1 f;have d:=aY.1 c;unfold cW;rw[if_pos ⟨f,c⟩];have h:=B2 (isNeg a) (val (numOf a)*val (ak b)) (!isNeg b) (val (numOf b)*val (ak a));generalize dB (isNeg a) (val (numOf a)*val (ak b)) (!isNeg b) (val (numOf b)*val (ak a))=z at*;rw[EJ,me,me,<-e.vT,<-d.vT,<-e.Gz,<-d.Gz]at h;rw[Rat.lt_iff,Rat.eq_iff_mul_eq_mul];have g:=Q7 (s:=z.1) (n:=z.2);have i:=H6 (s:=z.1) (n:=z.2)
 grind
def lD(s:Bool)(n d:Nat):Option (List UInt8):=if 400<(ag (n/Nat.gcd n d)).length\/400<(ag (d/Nat.gcd n d)).length then none else some (cz s (n/Nat.gcd n d) (d/Nat.gcd n d))
def pY(a b:List UInt8):Option (List UInt8):=lD (dB (isNeg a) (val (numOf a)*val (ak b)) (isNeg b) (val (numOf b)*val (ak a))).1 (dB (isNeg a) (val (numOf a)*val (ak b)) (isNeg b) (val (numOf b)*val (ak a))).2 (val (ak a)*val (ak b))
def BY(a b:List UInt8):Option (List UInt8):=lD (isNeg a !=isNeg b) (val (numOf a)*val (numOf b)) (val (ak a)*val (ak b))
def Gd(a b:List UInt8):Option (List UInt8):=lD (isNeg a !=isNeg b) (val (numOf a)*val (ak b)) (val (ak a)*val (numOf b))
def pZ(a:List UInt8):List UInt8:=cz (!isNeg a) (val (numOf a)) (val (ak a))
theorem sU{s:Bool}{c:List UInt8}(b:0<m)(h:lD s n m=some c):ay c=true/\bh c=mkRat (eR s n) m:=by
 unfold lD at h;split at h
 ·cases h
 ·next g=>
  obtain rfl:=oI h;have e:0<Nat.gcd n m:=Nat.gcd_pos_of_pos_right n b;have f:=Nat.gcd_dvd_left n m;have d:=Nat.gcd_dvd_right n m;have a:0<m/Nat.gcd n m:=Nat.div_pos (Nat.le_of_dvd b d) e;refine⟨Ag (by omega) (by omega) a ?_,?_⟩
  ·grind[Nat.gcd_div,Nat.div_self]
  ·rw[B0,Rat.mkRat_eq_iff (ne_of_gt a) (ne_of_gt b),<-me,<-me]
   grind[Nat.div_mul_cancel,Nat.mul_assoc]
theorem KF{s:Bool}(a:(ag n).length<=400)(b:(ag m).length<=400)(c:Nat.gcd n m=1):lD s n m=some (cz s n m):=by simp_all[lD]
theorem pw{a b c:List UInt8}(j:ay a=true)(f:ay b=true)(h:pY a b=some c):ay c=true/\bh c=bh a+bh b:=by
 have e:=aY.1 j;have d:=aY.1 f;obtain⟨g,i⟩:=sU (mul_pos e.den_pos d.den_pos) h;refine⟨g,?_⟩;rw[i,B2,me,me];unfold bh;rw[Rat.mkRat_add_mkRat _ _ (ne_of_gt e.den_pos) (ne_of_gt d.den_pos)]
theorem H0{a b c:List UInt8}(g:ay a=true)(d:ay b=true)(h:BY a b=some c):ay c=true/\bh c=bh a*bh b:=by
 have f:=aY.1 g;have e:=aY.1 d;obtain⟨i,j⟩:=sU (mul_pos f.den_pos e.den_pos) h
 grind[EI,Rat.mkRat_mul_mkRat,bh]
theorem HU{a b c:List UInt8}(l:ay a=true)(i:ay b=true)(f:val (numOf b)≠0)(h:Gd a b=some c):ay c=true/\bh c=bh a*(bh b)⁻¹:=by
 have d:=aY.1 l;have g:=aY.1 i;obtain⟨j,k⟩:=sU (mul_pos d.den_pos (Nat.pos_of_ne_zero f)) h;refine⟨j,?_⟩;have m:bh c*bh b=bh a:=by
  rw[k,EI];unfold bh;rw[Rat.mkRat_mul_mkRat,Rat.mkRat_eq_iff (ne_of_gt (mul_pos (mul_pos d.den_pos (Nat.pos_of_ne_zero f)) g.den_pos)) (ne_of_gt d.den_pos)];have e:∀(s t:Bool)(A B C D:Nat),eR s A*eR t B*eR t C*(D:Int)=eR s A*((D*C*B:Nat):Int):=λs t A B C D=>by
   unfold eR
   cases s<;>cases t<;>simp<;>grind
  exact e _ _ _ _ _ _
 have n:bh b≠0:=λe=>f (by
  have:=g.vT;rw[e]at this;exact H6.1 this.symm)
 grind
theorem tS{a:List UInt8}(g:ay a=true):ay (pZ a)=true/\bh (pZ a) = - bh a:=by
 have b:=aY.1 g;obtain⟨n,e,_,c⟩:=cn b.num;obtain⟨d,f,_,h⟩:=cn b.den;unfold pZ;refine⟨Ag ?_ ?_ b.den_pos b.one,?_⟩
 ·rw[c,<-e];exact b.ln
 ·rw[h,<-f];exact b.ld
 grind[B0,EJ,Rat.neg_mkRat,bh]
section
structure ba(K:Type) where
 zero:K
 one:K
 add:K->K->K
 mul:K->K->K
 star:K->K
 le:K->K->Prop
 add_assoc:∀a b c,add (add a b) c=add a (add b c)
 add_comm:∀a b,add a b=add b a
 zero_add:∀a,add zero a=a
 mul_assoc:∀a b c,mul (mul a b) c=mul a (mul b c)
 mul_comm:∀a b,mul a b=mul b a
 one_mul:∀a,mul one a=a
 zero_mul:∀a,mul zero a=zero
 mul_add:∀a b c,mul a (add b c)=add (mul a b) (mul a c)
 le_refl:∀a,le a a
 le_trans:∀{a b c},le a b->le b c->le a c
 GN:∀{a b},le a b->le b a->a=b
 zero_le:∀a,le zero a
 Ca:∀{a b c d},le a b->le c d->le (add a c) (add b d)
 Lq:∀{a b}(c),le a b->le (mul c a) (mul c b)
 xZ:∀a,add one (mul a (star a))=star a
 se:∀{a b x},le (add b (mul a x)) x->le (mul (star a) b) x
namespace ba
def cV{K:Type}(S:ba K)(f:Nat->K):Nat->K
 |0=>S.zero
 |n+1=>S.add (cV S f n) (f n)
variable {K:Type} {S:ba K}
theorem add_zero(a:K):S.add a S.zero=a:=by rw[S.add_comm,S.zero_add]
theorem mul_zero(a:K):S.mul a S.zero=S.zero:=by rw[S.mul_comm,S.zero_mul]
theorem mul_one(a:K):S.mul a S.one=a:=by rw[S.mul_comm,S.one_mul]
theorem add_mul(a b c:K):S.mul (S.add a b) c=S.add (S.mul a c) (S.mul b c):=by rw[S.mul_comm,S.mul_add,S.mul_comm c a,S.mul_comm c b]
theorem D4(a b c:K):S.add a (S.add b c)=S.add b (S.add a c):=by rw[<-S.add_assoc,S.add_comm a b,S.add_assoc]
theorem aaK(a b c d:K):S.add (S.add a b) (S.add c d)=S.add (S.add a c) (S.add b d):=by rw[S.add_assoc,S.add_assoc,D4 b c d]
theorem aN{f g:Nat->K}:∀{n:Nat},(∀i,i<n->f i=g i)->S.cV f n=S.cV g n
 |0,_=>rfl
 |n+1,h=>by
  show S.add _ _=S.add _ _;rw[aN λi a=>h i (Nat.lt_succ_of_lt a),h n (Nat.lt_succ_self n)]
theorem ja(f g:Nat->K):∀n,S.cV (λi=>S.add (f i) (g i)) n=S.add (S.cV f n) (S.cV g n)
 |0=>(S.zero_add _).symm
 |n+1=>by
  show S.add (S.cV _ n) _=S.add (S.add _ _) (S.add _ _);rw[ja f g n,aaK]
theorem yg(c:K)(f:Nat->K):∀n,S.cV (λi=>S.mul c (f i)) n=S.mul c (S.cV f n)
 |0=>(mul_zero c).symm
 |n+1=>by
  show S.add (S.cV _ n) _=S.mul c (S.add _ _);rw[yg c f n,S.mul_add]
theorem uC(c:K)(f:Nat->K)(n:Nat):S.cV (λi=>S.mul (f i) c) n=S.mul (S.cV f n) c:=by
 rw[S.mul_comm,<-yg];exact aN λi _=>S.mul_comm _ _
theorem gb:∀n,S.cV (λ_=>S.zero) n=S.zero
 |0=>rfl
 |n+1=>by
  show S.add (S.cV _ n) _=_;rw[gb n,S.zero_add]
theorem yh(f:Nat->Nat->K)(m:Nat):∀n,S.cV (λi=>S.cV (f i) m) n=S.cV (λj=>S.cV (λi=>f i j) n) m
 |0=>(gb m).symm
 |n+1=>by
  show S.add (S.cV _ n) _=_;rw[yh f m n,<-ja];rfl
theorem le_of_eq{a b:K}(h:a=b):S.le a b:=h▸S.le_refl a
def elim{K:Type}(S:ba K)(a:Nat->Nat->K):Nat->Nat->Nat->K
 |0=>a
 |k+1=>λi j=>S.add (elim S a k i j) (S.mul (S.mul (elim S a k i k) (S.star (elim S a k k k))) (elim S a k k j))
theorem UD(a b:K):S.add b (S.mul (S.mul b (S.star a)) a)=S.mul b (S.star a):=by
 have h:S.mul b (S.add S.one (S.mul a (S.star a)))=S.mul b (S.star a):=by rw[S.xZ]
 rw[S.mul_add,mul_one]at h;rw[S.mul_assoc,S.mul_comm (S.star a) a];exact h
theorem M7(a:Nat->Nat->K):∀(k i j:Nat),elim S a k i j=S.add (a i j) (S.cV (λl=>S.mul (a i l) (elim S a k l j)) k)
 |0,i,j=>(add_zero _).symm
 | k+1,i,j=>by
  have b:=M7 a k;show S.add (elim S a k i j) _=S.add (a i j) (S.add (S.cV _ k) (S.mul (a i k) (elim S a (k+1) k j)));have d:S.cV (λl=>S.mul (a i l) (elim S a (k+1) l j)) k=S.add (S.cV (λl=>S.mul (a i l) (elim S a k l j)) k) (S.mul (S.cV (λl=>S.mul (a i l) (elim S a k l k)) k) (S.mul (S.star (elim S a k k k)) (elim S a k k j))):=by
   rw[<-uC,<-ja];refine aN λl _=>?_;show S.mul (a i l) (S.add _ _)=_;rw[S.mul_add,S.mul_assoc,S.mul_assoc]
  have e:elim S a (k+1) k j=S.mul (S.star (elim S a k k k)) (elim S a k k j):=by
   show S.add (elim S a k k j) _=_;rw[S.mul_comm (elim S a k k k) _,S.mul_assoc];have h:=S.xZ (elim S a k k k);have c:S.mul (S.add S.one (S.mul (elim S a k k k) (S.star (elim S a k k k)))) (elim S a k k j)=S.mul (S.star (elim S a k k k)) (elim S a k k j):=by rw[h]
   rw[add_mul,S.one_mul,S.mul_comm (elim S a k k k),S.mul_assoc]at c;exact c
  rw[d,e,S.add_assoc,<-S.add_assoc (a i j),<-b i j];congr 1;rw[<-add_mul,S.add_comm (S.cV _ _) (a i k),<-b i k,S.mul_assoc]
def Hv(S:ba K)(a:Nat->Nat->K)(n:Nat)(c:Nat->K)(i:Nat):K:=S.add (c i) (S.cV (λj=>S.mul (elim S a n i j) (c j)) n)
theorem Dm(a:Nat->Nat->K)(n:Nat)(c:Nat->K)(i:Nat):Hv S a n c i=S.add (c i) (S.cV (λl=>S.mul (a i l) (Hv S a n c l)) n):=by
 unfold Hv;congr 1;have b:S.cV (λj=>S.mul (elim S a n i j) (c j)) n=S.add (S.cV (λj=>S.mul (a i j) (c j)) n) (S.cV (λj=>S.cV (λl=>S.mul (a i l) (S.mul (elim S a n l j) (c j))) n) n):=by
  rw[<-ja];refine aN λj _=>?_;rw[M7 a n i j,add_mul,<-uC];congr 1;exact aN λl _=>S.mul_assoc _ _ _
 rw[b,yh,<-ja];refine aN λl _=>?_;rw[S.mul_add,yg]
theorem qK{f:Nat->K}(k:Nat):∀{n:Nat},k<=n->S.cV f n=S.add (S.cV f k) (S.cV (λi=>f (k+i)) (n-k))
 |0,h=>by
  obtain rfl:k=0:=by omega
  exact(S.zero_add _).symm
 | n+1,h=>by
  by_cases e:k=n+1
  ·subst e;rw[Nat.sub_self];exact(add_zero _).symm
  ·have a:k<=n:=by omega
   rw[show n+1-k=(n-k)+1 by omega];show S.add (S.cV f n) (f n)=S.add _ (S.add _ (f (k+(n-k))));rw[qK k a,S.add_assoc,show k+(n-k)=n by omega]
theorem M8(a:Nat->Nat->K){n:Nat}{c x:Nat->K}(o:∀i,i<n->S.le (S.add (c i) (S.cV (λj=>S.mul (a i j) (x j)) n)) (x i)):∀(k:Nat),k<=n->∀i,i<n->S.le (S.add (c i) (S.cV (λj=>S.mul (elim S a k i j) (if j<k then c j else x j)) n)) (x i)
 |0,_,i,l=>by
  have h:=o i l;exact h
 | k+1,y,i,l=>by
  have d:=M8 a o k (by omega);have p:k<n:=by omega
  have b:∀(g:Nat->K),S.cV g n=S.add (g k) (S.cV (λj=>if j=k then S.zero else g j) n):=λg=>by
   have w:∀m,S.cV g m=S.add (if k<m then g k else S.zero) (S.cV (λj=>if j=k then S.zero else g j) m):=λm=>by
    induction m with
    |zero=>rw[if_neg (Nat.not_lt_zero k)];exact(S.zero_add _).symm
    | succ m d=>
     show S.add (S.cV g m) (g m)=S.add _ (S.add (S.cV _ m) (if m=k then S.zero else g m));rw[d];by_cases e:m=k
     ·subst e;rw[if_neg (lt_irrefl m),if_pos (Nat.lt_succ_self m),if_pos rfl,S.zero_add,add_zero,S.add_comm]
     ·by_cases h:k<m
      ·rw[if_pos h,if_pos (by omega),if_neg e,S.add_assoc]
      ·rw[if_neg h,if_neg (by omega),if_neg e,S.add_assoc]
   grind
  let s:=S.star (elim S a k k k)
  let r:=S.add (c k) (S.cV (λj=>if j=k then S.zero else S.mul (elim S a k k j) (if j<k then c j else x j)) n)
  have t:S.le (S.mul s r) (x k):=by
   refine S.se ?_;have h:=d k p;rw[b]at h;rw[if_neg (lt_irrefl k)]at h;refine S.le_trans (le_of_eq ?_) h;show S.add (S.add (c k) _) _=_;rw[S.add_assoc,S.add_comm (S.cV _ n)]
  have f:=d i l;rw[b]at f;rw[if_neg (lt_irrefl k)]at f;refine S.le_trans (le_of_eq ?_) (S.le_trans (S.Ca (S.le_refl (c i)) (S.Ca (S.Lq (elim S a k i k) t) (S.le_refl (S.cV (λj=>if j=k then S.zero else S.mul (elim S a k i j) (if j<k then c j else x j)) n)))) f);congr 1;rw[b];rw[if_pos (Nat.lt_succ_self k)];have q:S.mul (elim S a (k+1) i k) (c k)=S.mul (elim S a k i k) (S.mul s (c k)):=by
   show S.mul (S.add _ _) _=_;rw[UD,S.mul_assoc]
  have v:S.mul (elim S a k i k) (S.mul s r)=S.add (S.mul (elim S a k i k) (S.mul s (c k))) (S.cV (λj=>if j=k then S.zero else S.mul (S.mul (S.mul (elim S a k i k) s) (elim S a k k j)) (if j<k then c j else x j)) n):=by
   show S.mul _ (S.mul s (S.add _ _))=_;rw[S.mul_add,S.mul_add];congr 1;rw[<-S.mul_assoc,<-yg];refine aN λj _=>?_;by_cases e:j=k
   ·rw[if_pos e,if_pos e,mul_zero]
   ·rw[if_neg e,if_neg e,S.mul_assoc (S.mul _ s)]
  rw[q,v,S.add_assoc,<-ja];congr 1;refine aN λj _=>?_;by_cases e:j=k
  ·rw[if_pos e,if_pos e,if_pos e,S.zero_add]
  ·rw[if_neg e,if_neg e,if_neg e];have u:(if j<k+1 then c j else x j)=if j<k then c j else x j:=by
    by_cases h:j<k
    ·grind
    ·grind
   rw[u];show S.mul (S.add _ _) _=_;rw[add_mul,S.add_comm]
theorem FN(a:Nat->Nat->K){n:Nat}{c x:Nat->K}(b:∀i,i<n->S.le (S.add (c i) (S.cV (λj=>S.mul (a i j) (x j)) n)) (x i)){i:Nat}(d:i<n):S.le (Hv S a n c i) (x i):=by
 refine S.le_trans (le_of_eq ?_) (M8 a b n (Nat.le_refl _) i d)
 simp_all[aN,Hv]
end ba
end
end Go.Num
end
section
namespace Go.Num
inductive sG where
 |fin (q:Rat)
 |inf
 |low
namespace sG
def add:sG->sG->sG
 |low,_=>low
 |_,low=>low
 |inf,b=>b
 |a,inf=>a
 |fin p,fin q=>fin (if p<=q then p else q)
def mul:sG->sG->sG
 |inf,_=>inf
 |_,inf=>inf
 |low,_=>low
 |_,low=>low
 |fin p,fin q=>fin (p+q)
def star:sG->sG
 |inf=>fin 0
 |low=>low
 |fin p=>if 0<=p then fin 0 else low
def le:sG->sG->Prop
 |inf,_=>True
 |_,low=>True
 |fin p,fin q=>q<=p
 |_,_=>False
def S:ba sG where
 zero:=inf
 one:=fin 0
 add:=add
 mul:=mul
 star:=star
 le:=le
 add_assoc a b c:=by cases a<;>cases b<;>cases c<;>simp only[add]<;>(try rfl)<;>(grind)
 add_comm a b:=by cases a<;>cases b<;>simp only[add]<;>(grind)
 zero_add a:=by cases a<;>rfl
 mul_assoc a b c:=by cases a<;>cases b<;>cases c<;>simp only[mul]<;>(grind)
 mul_comm a b:=by cases a<;>cases b<;>simp only[mul]<;>(grind)
 one_mul a:=by cases a<;>simp only[mul]<;>(grind)
 zero_mul a:=by rfl
 mul_add a b c:=by cases a<;>cases b<;>cases c<;>simp only[mul,add]<;>(grind)
 le_refl a:=by cases a<;>simp only[le]<;>grind
 le_trans {a b c} e f:=by cases a<;>cases b<;>cases c<;>simp only[le]at*<;>grind
 GN {a b} e f:=by cases a<;>cases b<;>simp only[le]at*<;>grind
 zero_le a:=by cases a<;>trivial
 Ca {a b c d} e f:=by cases a<;>cases b<;>cases c<;>cases d<;>simp only[le,add]at*<;>grind
 Lq {a b} c h:=by cases a<;>cases b<;>cases c<;>simp only[le,mul]at*<;>grind
 xZ a:=by
  cases a with
  |fin p=>grind[star,mul,add]
  |inf=>rfl
  |low=>rfl
 se {a b x} h:=by
  cases a with
  |fin p=>
   simp only[star];split<;>cases b<;>cases x<;>simp only[mul,add,le]at*<;>grind
  |inf=>cases b<;>cases x<;>simp only[star,mul,add,le]at*<;>grind
  |low=>cases b<;>cases x<;>simp only[star,mul,add,le]at*<;>grind
end sG
end Go.Num
namespace Go.Num
inductive fN where
 |fin (q:Rat) (h:0<=q)
 |inf
namespace fN
theorem ext{p q:Rat}{h:0<=p}{a:0<=q}(e:p=q):fin p h=fin q a:=by grind
def mul:fN->fN->fN
 |fin p b,fin q a=>fin (p*q) (Rat.mul_nonneg b a)
 |fin p b,inf=>if p=0 then fin 0 (by grind)else inf
 |inf,fin q a=>if q=0 then fin 0 (by grind)else inf
 |inf,inf=>inf
def add:fN->fN->fN
 |fin p b,fin q a=>fin (p+q) (by grind)
 |_,_=>inf
def le:fN->fN->Prop
 |_,inf=>True
 |fin p _,fin q _=>p<=q
 |inf,fin _ _=>False
theorem inv_pos{p:Rat}(h:p<1):0<=(1-p)⁻¹:=by grind[Rat.inv_pos]
def star:fN->fN
 |inf=>inf
 |fin p _=>if h:p<1 then fin (1-p)⁻¹ (inv_pos h)else inf
theorem adL{p q:Rat}:p*q=0↔p=0\/q=0:=by grind
theorem Lp(a b c:fN):mul (mul a b) c=mul a (mul b c):=by
 cases a with
 | fin p f=>
  cases b with
  |fin q e=>
   cases c with
   |fin r d=>exact ext (Rat.mul_assoc p q r)
   |inf=>grind[mul]
  |inf=>
   cases c with
   |fin r d=>grind[mul]
   |inf=>grind[mul]
 | inf=>
  cases b with
  |fin q e=>
   cases c with
   |fin r d=>grind[mul]
   |inf=>grind[mul]
  |inf=>
   cases c with
   |fin r d=>grind[mul]
   |inf=>rfl
theorem Fh(a b:fN):mul a b=mul b a:=by
 cases a<;>cases b<;>simp only[mul]
 simp[Rat.mul_comm]
theorem Tn(a:fN):mul (fin 1 (by grind)) a=a:=by
 cases a with
 |fin p b=>exact ext (Rat.one_mul p)
 |inf=>rfl
theorem Ac(a:fN):mul (fin 0 (by grind)) a=fin 0 (by grind):=by
 cases a with
 |fin p b=>exact ext (Rat.zero_mul p)
 |inf=>rfl
theorem Th(a b c:fN):mul a (add b c)=add (mul a b) (mul a c):=by
 cases a with
 |fin p e=>
  cases b<;>cases c<;>simp only[mul,add]
  ·exact ext (Rat.mul_add _ _ _)
  all_goals grind
 | inf=>
  cases b with
  |fin q d=>
   cases c with
   |fin r f=>grind[mul,add]
   |inf=>grind[mul,add]
  |inf=>rfl
theorem Nh{a b:fN}(c:fN)(h:le a b):le (mul c a) (mul c b):=by
 cases c with
 | fin p i=>
  cases a with
  | fin q g=>
   cases b with
   |fin r d=>exact Rat.mul_le_mul_of_nonneg_left h i
   |inf=>
    simp only[mul];by_cases e:p=0
    all_goals simp_all[le]
  |inf=>
   cases b with
   |fin r d=>exact h.elim
   |inf=>grind[mul,le]
 | inf=>
  cases a with
  | fin q g=>
   cases b with
   | fin r d=>
    have h:q<=r:=h;simp only[mul];by_cases f:r=0
    ·have:q=0:=by grind
     simp[f,this,le]
    simp_all[le]
   |inf=>simp[mul,le]
  |inf=>
   cases b with
   |fin r d=>exact h.elim
   |inf=>simp[mul,le]
theorem inv_eq{p:Rat}(h:p<1):1+p*(1-p)⁻¹=(1-p)⁻¹:=by grind
theorem OV{p b x:Rat}(h:p<1)(e:b+p*x<=x):(1-p)⁻¹*b<=x:=by
 have a:(1-p)⁻¹*(1-p)=1:=Rat.inv_mul_cancel _ (by grind);have c:b<=(1-p)*x:=by grind
 have d:=Rat.mul_le_mul_of_nonneg_left c (inv_pos h);have f:(1-p)⁻¹*((1-p)*x)=x:=by rw[<-Rat.mul_assoc,a,Rat.one_mul]
 grind
def S:ba fN where
 zero:=fin 0 (by grind)
 one:=fin 1 (by grind)
 add:=add
 mul:=mul
 star:=star
 le:=le
 add_assoc a b c:=by
  cases a<;>cases b<;>cases c<;>simp only[add]
  grind
 add_comm a b:=by
  cases a<;>cases b<;>simp only[add]
  grind
 zero_add a:=by
  cases a with
  |fin p i=>exact ext (Rat.zero_add p)
  |inf=>rfl
 mul_assoc:=Lp
 mul_comm:=Fh
 one_mul:=Tn
 zero_mul:=Ac
 mul_add:=Th
 le_refl a:=by cases a<;>simp only[le]<;>grind
 le_trans {a b c} f g:=by cases a<;>cases b<;>cases c<;>simp only[le]at*<;>grind
 GN {a b} f g:=by
  cases a<;>cases b<;>simp only[le]at*
  grind
 zero_le a:=by cases a<;>simp only[le]<;>assumption
 Ca {a b c d} f g:=by cases a<;>cases b<;>cases c<;>cases d<;>simp only[le,add]at*<;>grind
 Lq {a b} c h:=Nh c h
 xZ a:=by
  cases a with
  |fin p i=>
   simp only[star];split
   ·next h=>exact ext (inv_eq h)
   grind[mul,add]
  |inf=>rfl
 se {a b x} h:=by
  cases x with
  |inf=>grind[le]
  | fin r j=>
   cases b with
   |inf=>exact h.elim
   | fin q k=>
    cases a with
    | fin p i=>
     have h:q+p*r<=r:=h;simp only[star];split
     ·next f=>exact OV f h
     ·next f=>
      have g:r<=p*r:=by
       have:=Rat.mul_le_mul_of_nonneg_right (show(1:Rat)<=p by grind) j
       grind
      grind[mul,le]
    | inf=>
     simp only[star,mul]at*;by_cases e:r=0
     ·subst e;simp only[if_pos rfl]at h;have h:q+0<=0:=h
      grind[le]
     ·rw[if_neg e]at h;exact h.elim
def max:fN->fN->fN
 |fin p b,fin q a=>fin (if p<=q then q else p) (by grind)
 |_,_=>inf
def tI:fN->fN
 |inf=>inf
 |fin p _=>if p<=1 then fin 1 (by grind)else inf
theorem Nf{a b:fN}(h:le a b):max a b=b:=by
 cases a<;>cases b<;>simp only[le,max]at*
 grind
theorem Tc{a b:fN}(h:le b a):max a b=a:=by
 cases a<;>cases b<;>simp only[le,max]at*
 grind
theorem UZ(a b:fN):le a b\/le b a:=by cases a<;>cases b<;>simp only[le]<;>grind
def V:ba fN:={ S with
 add:=max
 star:=tI
 add_assoc:=λa b c=>by cases a<;>cases b<;>cases c<;>simp only[max]<;>exact ext (by grind)
 add_comm:=λa b=>by cases a<;>cases b<;>simp only[max]<;>exact ext (by grind)
 zero_add:=λa=>Nf (S.zero_le a)
 mul_add:=λa b c=>by
  show mul a (max b c)=max (mul a b) (mul a c)
  grind[UZ,Nf,Nh,Tc]
 Ca:=λ{a b c d} i m=>by cases a<;>cases b<;>cases c<;>cases d<;>simp only[S,le,max]at*<;>grind
 xZ:=λa=>by
  show max (fin 1 (by grind)) (mul a (tI a))=tI a
  cases a with
  |fin p k=>
   simp only[tI];split
   ·next h=>exact ext (by grind)
   grind[mul,max]
  |inf=>rfl
 se:=λ{a b x} h=>by
  have h:le (max b (mul a x)) x:=h;show le (mul (tI a) b) x;have g:le b x:=by
   refine S.le_trans (?_:le b (max b (mul a x))) h;rcases UZ b (mul a x)with e|e
   ·grind[Nf]
   ·rw[Tc e];exact S.le_refl b
  have f:le (mul a x) x:=by
   refine S.le_trans (?_:le (mul a x) (max b (mul a x))) h;rcases UZ b (mul a x)with e|e
   ·rw[Nf e];exact S.le_refl _
   ·grind[Tc]
  cases x with
  |inf=>grind[le]
  | fin r o=>
   cases b with
   |inf=>exact g.elim
   | fin q l=>
    have g:q<=r:=g
    cases a with
    | fin p k=>
     have f:p*r<=r:=f;simp only[tI];split
     ·next i=>
      show 1*q<=r
      grind
     ·next i=>
      have:r=0:=by
       refine Classical.byContradiction λc=>?_;have j:0<r:=by grind
       have n:=Rat.mul_lt_mul_of_pos_right (show(1:Rat)<p by grind) j
       grind
      grind[mul]
    |inf=>
     simp only[mul]at f;by_cases e:r=0
     ·grind[tI,mul]
     ·rw[if_neg e]at f;exact f.elim }
end fN
end Go.Num
end
section
namespace Go.Num
variable{z:Int}
abbrev de:List UInt8:=[105,110,102]
abbrev hK:List UInt8:=[45,105,110,102]
def aM(b:Int)(a:List UInt8):Bool:=decide (1<=b/\b<=3)&&(a==[105,110,102]||a==[45,105,110,102]&&b==1||ay a&&(b==1||decide (0<=cW a [48])))
def bE(a:Int):List UInt8:=if a=1 then de else[48]
def qt(a:Int):List UInt8:=if a=1 then[48]else[49]
def dp(a b:List UInt8):Int:=if a=b then 0 else if a=hK\/b=de then -1 else if a=de\/b=hK then 1 else cW a b
def Gb(c:Int)(a b:List UInt8):Int:=if c=1 then dp a b else dp b a
def eM(c:Int)(a b:List UInt8):Option (List UInt8):=if c≠2 then some (if Gb c b a<0 then b else a)else if a=de\/b=de then some de else pY a b
def dg(c:Int)(a b:List UInt8):Option (List UInt8):=if a=bE c\/b=bE c then some (bE c)else if a=de\/b=de then some de else if a=hK\/b=hK then some hK else if c=1 then pY a b else BY a b
def lE(b:Int)(a:List UInt8):Option (List UInt8):=if b=1 then(if dp a [48]>=0 then some [48]else some hK)else if b=3 then(if dp a [49]<=0 then some [49]else some de)else if dp a [49]>=0 then some de else match pY [49] (pZ a)with
 |some d=>Gd [49] d
 |none=>none
def BQ(a:List UInt8):sG:=if a=de then .inf else if a=hK then .low else .fin (bh a)
noncomputable def kS(a:List UInt8):fN:=if a=de then .inf else if h:0<=bh a then .fin (bh a) h else .inf
structure wy{K:Type}(S:ba K)(dec:List UInt8->K)(kind:Int):Prop where
 zero:dec (bE kind)=S.zero
 one:dec (qt kind)=S.one
 inj:∀{a b:List UInt8},aM kind a=true->aM kind b=true->dec a=dec b->a=b
 plus:∀{a b c:List UInt8},aM kind a=true->aM kind b=true->eM kind a b=some c->aM kind c=true/\dec c=S.add (dec a) (dec b)
 times:∀{a b c:List UInt8},aM kind a=true->aM kind b=true->dg kind a b=some c->aM kind c=true/\dec c=S.mul (dec a) (dec b)
 star:∀{a c:List UInt8},aM kind a=true->lE kind a=some c->aM kind c=true/\dec c=S.star (dec a)
theorem fv:ay [49]=true:=by decide
theorem jl:bh [48]=0:=by rfl
theorem kU:bh [49]=1:=by rfl
theorem cp{a:List UInt8}(h:ay a=true):a≠de/\a≠hK:=by
 constructor<;>intro e<;>rw[e]at h<;>exact absurd h (by decide)
theorem gk{a:List UInt8}(h:aM z a=true):z=1\/z=2\/z=3:=by
 unfold aM at h
 grind
theorem mM{a:List UInt8}:aM 1 a=true↔a=de\/a=hK\/ay a=true:=by simp_all[or_assoc,aM]
theorem Q5{a:List UInt8}(h:ay a=true):0<=cW a [48]↔0<=bh a:=by
 have:=(Ad h fo).1
 grind[jl]
theorem hW(d:z=2\/z=3){a:List UInt8}:aM z a=true↔a=de\/(ay a=true/\0<=bh a):=by
 have b:decide (1<=z/\z<=3)=true:=by simp;omega
 have c:(z==1)=false:=by rcases d with rfl|rfl<;>rfl
 unfold aM;rw[b,c,Bool.true_and,Bool.and_false,Bool.or_false,Bool.false_or,Bool.or_eq_true,Bool.and_eq_true,beq_iff_eq,decide_eq_true_eq]
 grind[Q5]
theorem df{a:List UInt8}(h:ay a=true):BQ a = .fin (bh a):=by simp_all[cp,BQ]
theorem oy:BQ de = .inf:=by rfl
theorem l8:BQ hK = .low:=by rfl
theorem cY{a:List UInt8}(h:ay a=true)(b:0<=bh a):kS a = .fin (bh a) b:=by simp_all[cp,kS]
theorem ji:kS de = .inf:=by rfl
theorem qS{a b:List UInt8}(d:ay a=true)(c:ay b=true):(dp a b<0↔bh a<bh b)/\(dp a b=0↔bh a=bh b):=by
 obtain⟨f,g⟩:=Ad d c;unfold dp;by_cases e:a=b
 all_goals simp_all[cp]
theorem yx{a b:List UInt8}(d:ay a=true)(c:ay b=true):dp a b>=0↔bh b<=bh a:=by
 have:=(qS d c).1
 grind
theorem NP{a b:List UInt8}(d:ay a=true)(c:ay b=true):dp a b<=0↔bh a<=bh b:=by
 obtain⟨e,f⟩:=qS d c
 grind
theorem Y9:wy sG.S BQ 1 where
 zero:=oy
 one:=by rfl
 inj:=λ{a b} d f e=>by grind[mM,oy,l8,df,vG]
 plus:=λ{a b c} d f e=>by
  have e:some (if dp b a<0 then b else a)=some c:=e;obtain rfl:=oI e;refine⟨by grind,?_⟩;rcases mM.1 d with rfl|rfl|d<;>rcases mM.1 f with rfl|rfl|f
  ·rfl
  ·rfl
  ·have:dp b de = -1:=by unfold dp;rw[if_neg (cp f).1,if_pos (.inr rfl)]
   rw[this,if_pos (by omega),oy,df f];rfl
  ·rfl
  ·rfl
  ·have:dp b hK=1:=by unfold dp;rw[if_neg (cp f).2,if_neg (λc=>c.elim (cp f).2 (by decide)),if_pos (.inr rfl)]
   rw[this,if_neg (by omega),l8,df f];rfl
  ·have:dp de a=1:=by unfold dp;rw[if_neg (λe=>(cp d).1 e.symm),if_neg (λc=>c.elim (by decide) (cp d).1),if_pos (.inl rfl)]
   rw[this,if_neg (by omega),oy,df d];rfl
  ·have:dp hK a = -1:=by unfold dp;rw[if_neg (λe=>(cp d).2 e.symm),if_pos (.inl rfl)]
   rw[this,if_pos (by omega),l8,df d];rfl
  ·have h:=(qS f d).1;rw[df d,df f];show _=sG.fin (if bh a<=bh b then bh a else bh b);by_cases c:dp b a<0
   ·rw[if_pos c,df f,if_neg (Rat.not_le.2 (h.1 c))]
   ·rw[if_neg c,df d,if_pos (Rat.not_lt.1 λx=>c (h.2 x))]
 times:=λ{a b c} d f e=>by
  unfold dg at e;rw[show bE 1=de from rfl]at e;rcases mM.1 d with rfl|rfl|d
  ·rw[if_pos (.inl rfl)]at e;obtain rfl:=oI e;refine⟨d,?_⟩;rfl
  ·rcases mM.1 f with rfl|rfl|f
   ·rw[if_pos (.inr rfl)]at e;obtain rfl:=oI e;exact⟨f,by rfl⟩
   ·rw[if_neg (by decide),if_neg (by decide),if_pos (.inl rfl)]at e;obtain rfl:=oI e;exact⟨f,by rfl⟩
   ·rw[if_neg (λc=>c.elim (by decide) (cp f).1),if_neg (λc=>c.elim (by decide) (cp f).1),if_pos (.inl rfl)]at e;obtain rfl:=oI e;exact⟨d,by rw[l8,df f];rfl⟩
  ·rcases mM.1 f with rfl|rfl|f
   ·rw[if_pos (.inr rfl)]at e;obtain rfl:=oI e;exact⟨f,by rw[oy,df d];rfl⟩
   ·rw[if_neg (λc=>c.elim (cp d).1 (by decide)),if_neg (λc=>c.elim (cp d).1 (by decide)),if_pos (.inr rfl)]at e;obtain rfl:=oI e;exact⟨f,by rw[l8,df d];rfl⟩
   ·rw[if_neg (λc=>c.elim (cp d).1 (cp f).1),if_neg (λc=>c.elim (cp d).1 (cp f).1),if_neg (λc=>c.elim (cp d).2 (cp f).2),if_pos rfl]at e;obtain⟨i,j⟩:=pw d f e;exact⟨mM.2 (.inr (.inr i)),by rw[df d,df f,df i,j];rfl⟩
 star:=λ{a c} d e=>by
  unfold lE at e;rw[if_pos rfl]at e;rcases mM.1 d with rfl|rfl|d
  ·rw[if_pos (by decide)]at e;obtain rfl:=oI e;exact⟨by decide,by rfl⟩
  ·rw[if_neg (by decide)]at e;obtain rfl:=oI e;exact⟨by decide,by rfl⟩
  ·have h:=yx d fo;rw[jl]at h;rw[df d];show _/\_=if 0<=bh a then sG.fin 0 else sG.low;by_cases g:dp a [48]>=0
   ·rw[if_pos g]at e;obtain rfl:=oI e;exact⟨by decide,by rw[if_pos (h.1 g),df fo,jl]⟩
   ·rw[if_neg g]at e;obtain rfl:=oI e;exact⟨by decide,by rw[if_neg λx=>g (h.2 x),l8]⟩
theorem BO(f:z=2\/z=3){a b:List UInt8}(d:aM z a=true)(c:aM z b=true)(e:kS a=kS b):a=b:=by grind[hW,ji,cY,vG]
theorem EM(a:z=2\/z=3):aM z de=true:=by grind[hW]
theorem wz(g:z=2\/z=3){a b c:List UInt8}(j:aM z a=true)(k:aM z b=true)(e:dg z a b=some c):aM z c=true/\kS c=fN.mul (kS a) (kS b):=by
 have v:bE z=[48]:=by rcases g with rfl|rfl<;>rfl
 have t:¬z=1:=by omega
 have l:aM z [48]=true:=(hW g).2 (.inr ⟨fo,by rfl⟩);have r:kS [48] = .fin 0 Rat.le_refl:=by rw[cY fo (by rfl)];exact fN.ext jl
 unfold dg at e;rw[v]at e;have w:∀{x:List UInt8},ay x=true->x≠[48]->bh x≠0:=λs u e=>u (vG s fo (by rw[e,jl]));by_cases q:a=[48]
 ·subst q;rw[if_pos (.inl rfl)]at e;obtain rfl:=oI e;exact⟨l,by rw[r];simp[fN.Ac]⟩
 by_cases o:b=[48]
 ·subst o;rw[if_pos (.inr rfl)]at e;obtain rfl:=oI e;exact⟨l,by rw[fN.Fh,r];simp[fN.Ac]⟩
 rw[if_neg (λx=>x.elim q o)]at e;rcases(hW g).1 j with rfl|⟨f,h⟩<;>rcases(hW g).1 k with rfl|⟨d,i⟩
 ·rw[if_pos (.inl rfl)]at e;obtain rfl:=oI e;exact⟨j,by rfl⟩
 ·rw[if_pos (.inl rfl)]at e;obtain rfl:=oI e;refine⟨j,?_⟩;rw[ji,cY d i];show _=if bh b=0 then _ else _
  grind
 ·rw[if_pos (.inr rfl)]at e;obtain rfl:=oI e;refine⟨k,?_⟩;rw[ji,cY f h];show _=if bh a=0 then _ else _
  grind
 ·rw[if_neg (λc=>c.elim (cp f).1 (cp d).1),if_neg (λc=>c.elim (cp f).2 (cp d).2),if_neg t]at e;obtain⟨n,m⟩:=H0 f d e;have p:0<=bh c:=by rw[m];exact Rat.mul_nonneg h i
  refine⟨(hW g).2 (.inr ⟨n,p⟩),?_⟩;rw[cY f h,cY d i,cY n p];exact fN.ext m
theorem Ae:kS [48]=fN.S.zero:=by rfl
theorem BP:kS [49]=fN.S.one:=by rfl
theorem qw(b:z=2\/z=3){a:List UInt8}(h:ay a=true)(c:0<=bh a):aM z a=true:=by grind[hW]
theorem qv(a:z=2\/z=3):aM z [49]=true:=qw a fv (by rfl)
theorem Y8:wy fN.S kS 2 where
 zero:=Ae
 one:=BP
 inj:=BO (.inl rfl)
 times:=wz (.inl rfl)
 plus:=λ{a b c} k o e=>by
  unfold eM at e;rw[if_neg (by decide)]at e;rcases(hW (.inl rfl)).1 k with rfl|⟨f,l⟩
  ·rw[if_pos (.inl rfl)]at e;obtain rfl:=oI e;exact⟨k,by rfl⟩
  rcases(hW (.inl rfl)).1 o with rfl|⟨m,q⟩
  ·rw[if_pos (.inr rfl)]at e;obtain rfl:=oI e;exact⟨o,by rw[ji];cases kS a<;>rfl⟩
  rw[if_neg (λc=>c.elim (cp f).1 (cp m).1)]at e;obtain⟨j,i⟩:=pw f m e;have n:0<=bh c:=by rw[i];exact Rat.add_nonneg l q
  refine⟨qw (.inl rfl) j n,?_⟩;rw[cY f l,cY m q,cY j n];exact fN.ext i
 star:=λ{a c} k e=>by
  unfold lE at e;rw[if_neg (by decide),if_neg (by decide)]at e;rcases(hW (.inl rfl)).1 k with rfl|⟨f,l⟩
  ·rw[if_pos (by decide)]at e;obtain rfl:=oI e;exact⟨k,by rfl⟩
  have h:=yx f fv;rw[kU]at h;rw[cY f l];show _/\_=if h:bh a<1 then fN.fin (1-bh a)⁻¹ _ else fN.inf;by_cases g:dp a [49]>=0
  ·rw[if_pos g]at e;obtain rfl:=oI e
   simp_all[EM,Rat.not_lt,ji]
  ·rw[if_neg g]at e;have u:bh a<1:=Rat.not_le.1 λx=>g (h.2 x);rw[dif_pos u]
   cases p:pY [49] (pZ a)with
   |none=>grind
   | some d=>
    rw[p]at e;dsimp only at e;obtain⟨s,t⟩:=tS f;obtain⟨j,i⟩:=pw fv s p;rw[t,kU]at i;have r:bh d=1-bh a:=by rw[i,Rat.sub_eq_add_neg]
    have v:val (numOf d)≠0:=λe=>by
     have:=(aY.1 j).vT;rw[e,qW]at this;have:=Rat.num_eq_zero.1 this;rw[r]at this
     grind
    obtain⟨n,w⟩:=HU fv j v e;rw[kU,Rat.one_mul,r]at w
    grind[qw,cY]
theorem Za:wy fN.V kS 3 where
 zero:=Ae
 one:=BP
 inj:=BO (.inr rfl)
 times:=wz (.inr rfl)
 plus:=λ{a b c} j l e=>by
  have e:some (if dp a b<0 then b else a)=some c:=e;obtain rfl:=oI e;refine⟨by grind,?_⟩;rcases(hW (.inr rfl)).1 j with rfl|⟨d,i⟩<;>rcases(hW (.inr rfl)).1 l with rfl|⟨f,k⟩
  ·rfl
  ·have:dp de b=1:=by unfold dp;rw[if_neg (λe=>(cp f).1 e.symm),if_neg (λc=>c.elim (by decide) (cp f).1),if_pos (.inl rfl)]
   rw[this,if_neg (by omega),ji];rfl
  ·have:dp a de = -1:=by unfold dp;rw[if_neg (cp d).1,if_pos (.inr rfl)]
   rw[this,if_pos (by omega),ji];cases kS a<;>rfl
  ·have h:=(qS d f).1;rw[cY d i,cY f k];show _=fN.fin (if bh a<=bh b then bh b else bh a) _;by_cases c:dp a b<0
   ·rw[if_pos c,cY f k]
    grind
   ·rw[if_neg c,cY d i]
    grind
 star:=λ{a c} j e=>by
  unfold lE at e;rw[if_neg (by decide),if_pos rfl]at e;rcases(hW (.inr rfl)).1 j with rfl|⟨d,i⟩
  ·rw[if_neg (by decide)]at e;obtain rfl:=oI e;exact⟨j,by rfl⟩
  have h:=NP d fv;rw[kU]at h;rw[cY d i];show _/\_=if bh a<=1 then fN.fin 1 _ else fN.inf;by_cases g:dp a [49]<=0
  ·rw[if_pos g]at e;obtain rfl:=oI e;exact⟨qv (.inr rfl),by rw[if_pos (h.1 g),cY fv (by rw[kU];decide)];rfl⟩
  ·rw[if_neg g]at e;obtain rfl:=oI e
   simp_all[EM,ji]
theorem wC{kind:Int}(h:1<=kind/\kind<=3):∃(K:Type)(S:ba K)(a:List UInt8->K),wy S a kind:=by
 obtain rfl|rfl|rfl:kind=1\/kind=2\/kind=3:=by omega
 all_goals grind[Y9,Y8,Za]
section
structure pX(α:Type) where
 zero:α
 one:α
 wY:α->Bool
 plus:α->α->Option α
 times:α->α->Option α
 star:α->Option α
def bd{β:Type}(f:β->Nat->Option β):Nat->Nat->β->Option β
 |0,_,b=>some b
 |k+1,i,b=>match f b i with
  |some a=>bd f k (i+1) a
  |none=>none
structure jg(α:Type) where
 i:Int
 o:Int
 w:α
 t:Nat
structure HP(α:Type) where
 fin:Option α
 arcs:List (jg α)
structure fT(α:Type) where
 lead:α
 start:Nat
 bH:List (HP α)
section
variable {α:Type} (O:pX α)
def gj(l:List α)(t:Nat)(a b:α):Option (List α):=match O.times a b with
 |none=>none
 |some p=>match O.plus (l.getD t O.zero) p with
  |none=>none
  |some s=>some (l.set t s)
def bu(n:Nat):List α:=List.replicate n O.zero
def cd:jg α:=⟨0,0,O.zero,0⟩
def dG:HP α:=⟨none,[]⟩
def jK(i o:Int)(u:α)(a:List (jg α))(l:List α)(k:Nat):Option (List α):=
 if(a.getD k (cd O)).i≠i\/(a.getD k (cd O)).o≠o then some l else gj O l (a.getD k (cd O)).t u (a.getD k (cd O)).w
def qu(M:fT α)(v:List α)(i o:Int)(l:List α)(q:Nat):Option (List α):=
 if O.wY (v.getD q O.zero)then some l else bd (jK O i o (v.getD q O.zero) (M.bH.getD q dG).arcs) (M.bH.getD q dG).arcs.length 0 l
def kL(M:fT α)(v:List α)(i o:Int):Option (List α):=bd (qu O M v i o) M.bH.length 0 (bu O M.bH.length)
def wE(a b:List α)(l:List α)(i:Nat):Option (List α):=match O.plus (a.getD i O.zero) (b.getD i O.zero)with
 |none=>none
 |some s=>some (l++[s])
def np(a b:List α):Option (List α):=bd (wE O a b) a.length 0 []
def eS(a:List (jg α))(l:List α)(k:Nat):Option (List α):=
 if(a.getD k (cd O)).i≠0\/(a.getD k (cd O)).o≠0 then some l else match O.plus (l.getD (a.getD k (cd O)).t O.zero) (a.getD k (cd O)).w with
  |none=>none
  |some s=>some (l.set (a.getD k (cd O)).t s)
def gF(M:fT α)(A:List (List α))(q:Nat):Option (List (List α)):=match bd (eS O (M.bH.getD q dG).arcs) (M.bH.getD q dG).arcs.length 0 (bu O M.bH.length)with
 |none=>none
 |some r=>some (A++[r])
def ox(M:fT α):Bool:=M.bH.any λs=>s.arcs.any λa=>decide (a.i=0)&&decide (a.o=0)
def bP(B:List (List α))(i j:Nat):α:=(B.getD i []).getD j O.zero
def cm(B:List (List α))(s:α)(k i:Nat)(r:List α)(j:Nat):Option (List α):=
 if O.wY (bP O B i k)||O.wY (bP O B k j)then some (r++[bP O B i j])else match O.times (bP O B i k) s with
  |none=>none
  | some p=>match O.times p (bP O B k j)with
   |none=>none
   |some a=>match O.plus (bP O B i j) a with
    |none=>none
    |some c=>some (r++[c])
def iF(B:List (List α))(s:α)(k:Nat)(C:List (List α))(i:Nat):Option (List (List α)):=match bd (cm O B s k i) B.length 0 []with
 |none=>none
 |some r=>some (C++[r])
def ff(B:List (List α))(k:Nat):Option (List (List α)):=match O.star (bP O B k k)with
 |none=>none
 |some s=>bd (iF O B s k) B.length 0 []
def nG(B:List (List α))(i:Nat):Option (List (List α)):=match O.plus O.one (bP O B i i)with
 |none=>none
 |some s=>some (B.set i ((B.getD i []).set i s))
def jJ(A:List (List α)):Option (List (List α)):=match bd (ff O) A.length 0 A with
 |none=>none
 |some B=>bd (nG O) A.length 0 B
def dP(M:fT α):Option (Option (List (List α))):=match bd (gF O M) M.bH.length 0 []with
 |none=>none
 | some A=>if ox M then(if 60<M.bH.length then none else match jJ O A with
   |none=>none
   |some B=>some (some B))else some none
def fC(v:List α)(B:List (List α))(q:Nat)(l:List α)(p:Nat):Option (List α):=
 if O.wY (v.getD q O.zero)||O.wY (bP O B q p)then some l else gj O l p (v.getD q O.zero) (bP O B q p)
def fK(v:List α):Option (List (List α))->Option (List α)
 |none=>some v
 |some B=>bd (λl q=>bd (fC O v B q) v.length 0 l) v.length 0 (bu O v.length)
def jH(M:fT α)(v:List α)(l:List α)(q:Nat):Option (List α):=match (M.bH.getD q dG).fin with
 |none=>some l
 |some f=>gj O l 0 (v.getD q O.zero) f
def oz(M:fT α)(v:List α):Option α:=match bd (jH O M v) v.length 0 [O.zero]with
 |none=>none
 |some l=>some (l.getD 0 O.zero)
def dE(T:List (List (List α)))(i j:Nat):List α:=(T.getD i []).getD j []
def fg(T:List (List (List α)))(i j:Nat)(v:List α):List (List (List α)):=T.set i ((T.getD i []).set j v)
def bK(x:List Int)(i b:Nat):Int:=if b=1 then x.getD i 0 else 0
def oB(M:fT α)(x y:List Int)(v:List α)(i j:Nat)(T:List (List (List α)))(k:Nat):Option (List (List (List α))):=
 if x.length<i+k%2\/y.length<j+k/2 then some T else match kL O M v (bK x i (k%2)) (bK y j (k/2))with
  |none=>none
  |some s=>match np O (dE T (i+k%2) (j+k/2)) s with
   |none=>none
   |some r=>some (fg T (i+k%2) (j+k/2) r)
def mL(M:fT α)(B:Option (List (List α)))(x y:List Int)(i:Nat)(T:List (List (List α)))(j:Nat):Option (List (List (List α))):=match fK O (dE T i j) B with
 |none=>none
 |some v=>bd (oB O M x y v i j) 3 1 (fg T i j v)
def qV(M:fT α)(B:Option (List (List α)))(x y:List Int)(T:List (List (List α)))(i:Nat):Option (List (List (List α))):=bd (mL O M B x y i) (y.length+1) 0 T
def jX(M:fT α)(x y:List Int):List (List (List α)):=fg (List.replicate (x.length+1) (List.replicate (y.length+1) (bu O M.bH.length))) 0 0 ((bu O M.bH.length).set M.start M.lead)
def eA(M:fT α)(x y:List Int):Option α:=match dP O M with
 |none=>none
 |some B=>match bd (qV O M B x y) (x.length+1) 0 (jX O M x y)with
  |none=>none
  |some T=>oz O M (dE T x.length y.length)
end
structure F7{α β:Type}(O:pX α)(P:pX β)(V:α->Prop)(h:α->β):Prop where
 zero:V O.zero/\h O.zero=P.zero
 one:V O.one/\h O.one=P.one
 wY:∀{a},V a->P.wY (h a)=O.wY a
 plus:∀{a b c},V a->V b->O.plus a b=some c->V c/\P.plus (h a) (h b)=some (h c)
 times:∀{a b c},V a->V b->O.times a b=some c->V c/\P.times (h a) (h b)=some (h c)
 star:∀{a c},V a->O.star a=some c->V c/\P.star (h a)=some (h c)
theorem ey{β j:Type}{H:β->j}{VB:β->Prop}{f:β->Nat->Option β}{g:j->Nat->Option j}(l:∀b i a,VB b->f b i=some a->VB a/\g (H b) i=some (H a)):∀(k i:Nat)(b a:β),VB b->bd f k i b=some a->VB a/\bd g k i (H b)=some (H a)
 |0,i,b,a,d,h=>by
  obtain rfl:=oI h;exact⟨d,rfl⟩
 | k+1,i,b,a,d,h=>by
  unfold bd at h⊢
  cases e:f b i with
  |none=>grind
  |some c=>
   rw[e]at h;obtain⟨m,n⟩:=l b i c d e;rw[n];exact ey l k (i+1) c a m h
def mapA{α β:Type}(h:α->β)(a:jg α):jg β:=⟨a.i,a.o,h a.w,a.t⟩
def nn{α β:Type}(h:α->β)(s:HP α):HP β:=⟨s.fin.map h,s.arcs.map (mapA h)⟩
def mapM{α β:Type}(h:α->β)(M:fT α):fT β:=⟨h M.lead,M.start,M.bH.map (nn h)⟩
def bp{α:Type}(V:α->Prop)(l:List α):Prop:=∀a∈l,V a
structure BI{α:Type}(V:α->Prop)(M:fT α):Prop where
 lead:V M.lead
 fin:∀s∈M.bH,∀f,s.fin=some f->V f
 w:∀s∈M.bH,∀a∈s.arcs,V a.w
section
variable {α β:Type} {O:pX α} {P:pX β} {V:α->Prop} {h:α->β}
theorem sS(l:List α)(i:Nat)(d:α):(l.map h).getD i (h d)=h (l.getD i d):=by grind
theorem oA{l:List α}(b:bp V l){d:α}(c:V d)(i:Nat):V (l.getD i d):=by
 rw[gD]
 cases e:l[i]? with
 |none=>grind
 |some a=>exact b a (List.mem_of_getElem? e)
theorem bp.set{l:List α}(b:bp V l){a:α}(d:V a)(i:Nat):bp V (l.set i a):=λx c=>by
 rcases List.mem_or_eq_of_mem_set c with h|h
 ·exact b x h
 grind
theorem bp.snoc{l:List α}(b:bp V l){a:α}(d:V a):bp V (l++[a]):=λx c=>by
 rcases mem_append.1 c with h|h
 ·exact b x h
 grind
theorem bp.rep{a:α}(c:V a)(n:Nat):bp V (List.replicate n a):=λx b=>by grind
variable (H:F7 O P V h)
include H
theorem F7.getD(l:List α)(i:Nat):(l.map h).getD i P.zero=h (l.getD i O.zero):=by rw[<-H.zero.2];grind
theorem F7.at_{l:List α}(a:bp V l)(i:Nat):V (l.getD i O.zero):=oA a H.zero.1 i
theorem vw{l c:List α}{a b:α}{t:Nat}(f:bp V l)(n:V a)(i:V b)(e:gj O l t a b=some c):bp V c/\gj P (l.map h) t (h a) (h b)=some (c.map h):=by
 unfold gj at e⊢
 cases d:O.times a b with
 |none=>grind
 | some p=>
  rw[d]at e;obtain⟨k,m⟩:=H.times n i d;rw[m];dsimp only at e⊢;rw[H.getD]
  cases g:O.plus (l.getD t O.zero) p with
  |none=>grind
  |some s=>
   rw[g]at e;obtain⟨j,o⟩:=H.plus (H.at_ f t) k g;obtain rfl:=oI e;rw[o];exact⟨f.set j t,by simp⟩
theorem BK(a:List (jg α))(k:Nat):(a.map (mapA h)).getD k (cd P)=mapA h (a.getD k (cd O)):=by
 have:cd P=mapA h (cd O):=by unfold cd mapA;rw[H.zero.2]
 grind
theorem MM{b:List (jg α)}(c:∀a∈b,V a.w)(k:Nat):V (b.getD k (cd O)).w:=
 oA (V:=λ(a:jg α)=>V a.w) c (by unfold cd;exact H.zero.1) k
theorem DZ{i o:Int}{u:α}{b:List (jg α)}(g:V u)(j:∀a∈b,V a.w)(l:List α)(k:Nat)(d:List α)(f:bp V l)(e:jK O i o u b l k=some d):bp V d/\jK P i o (h u) (b.map (mapA h)) (l.map h) k=some (d.map h):=by
 unfold jK at e⊢;rw[BK H];show bp V d/\(if(b.getD k (cd O)).i≠i\/(b.getD k (cd O)).o≠o then some (l.map h)else gj P (l.map h) (b.getD k (cd O)).t (h u) (h (b.getD k (cd O)).w))=some (d.map h);split at e
 ·grind
 ·next c=>rw[if_neg c];grind[vw,MM]
omit H in
theorem yC(M:fT α)(q:Nat):(mapM h M).bH.getD q dG=nn h (M.bH.getD q dG):=sS (h:=nn h) M.bH q dG
omit H in
theorem sV{M:fT α}(q:Nat):M.bH.getD q dG=dG\/M.bH.getD q dG∈M.bH:=by grind
omit H in
theorem Q8{M:fT α}(c:BI V M)(q:Nat):∀a∈(M.bH.getD q dG).arcs,V a.w:=λa b=>by
 rcases sV (M:=M) q with e|e
 ·rw[e]at b;cases b
 ·exact c.w _ e a b
omit H in
theorem VI{M:fT α}(b:BI V M)(q:Nat){f:α}(a:(M.bH.getD q dG).fin=some f):V f:=by
 rcases sV (M:=M) q with e|e
 ·rw[e]at a;cases a
 ·exact b.fin _ e f a
theorem py(n:Nat):bp V (bu O n)/\(bu O n).map h=bu P n:=⟨bp.rep H.zero.1 n,by unfold bu;rw[List.map_replicate,H.zero.2]⟩
theorem H8{M:fT α}(j:BI V M){v b:List α}{i o:Int}(d:bp V v)(e:kL O M v i o=some b):bp V b/\kL P (mapM h M) (v.map h) i o=some (b.map h):=by
 unfold kL at e⊢;have f:=py H M.bH.length;have a:(mapM h M).bH.length=M.bH.length:=lM _;rw[a,<-f.2];refine ey (VB:=bp V) (H:=List.map h) (λl q k g e=>?_) _ _ _ _ f.1 e;unfold qu at e⊢;rw[H.getD,yC,H.wY (H.at_ d q)];split at e
 ·grind
 ·next c=>
  rw[if_neg c];have a:(nn h (M.bH.getD q dG)).arcs.length=(M.bH.getD q dG).arcs.length:=lM _;rw[a];exact ey (VB:=bp V) (H:=List.map h) (DZ H (H.at_ d q) (Q8 j q)) _ _ _ _ g e
theorem KN{a b c:List α}(k:bp V a)(f:bp V b)(e:np O a b=some c):bp V c/\np P (a.map h) (b.map h)=some (c.map h):=by
 unfold np at e⊢;rw[lM];refine ey (VB:=bp V) (H:=List.map h) (λl q m g e=>?_) _ _ _ _ (λx n=>by grind) e;unfold wE at e⊢;rw[H.getD,H.getD]
 cases d:O.plus (a.getD q O.zero) (b.getD q O.zero)with
 |none=>grind
 |some s=>
  rw[d]at e;obtain⟨i,j⟩:=H.plus (H.at_ k q) (H.at_ f q) d;obtain rfl:=oI e;rw[j];exact⟨g.snoc i,by grind⟩
theorem od(B:List (List α))(i j:Nat):bP P (B.map (List.map h)) i j=h (bP O B i j):=by
 unfold bP;have:(B.map (List.map h)).getD i []=(B.getD i []).map h:=sS (h:=List.map h) B i [];rw[this,H.getD]
theorem mJ{B:List (List α)}(a:bp (bp V) B)(i j:Nat):V (bP O B i j):=H.at_ (oA a (λx b=>by grind) i) j
theorem Gf{M:fT α}(vm:BI V M){r:Option (List (List α))}(e:dP O M=some r):(∀B,r=some B->bp (bp V) B)/\dP P (mapM h M)=some (r.map (List.map (List.map h))):=by
 unfold dP at e⊢;have I:(mapM h M).bH.length=M.bH.length:=lM _;rw[I]
 cases J:bd (gF O M) M.bH.length 0 []with
 |none=>grind
 | some A=>
  rw[J]at e;obtain⟨h1,t⟩:=ey (VB:=bp (bp V)) (H:=List.map (List.map h)) (g:=gF P (mapM h M)) (λA q A' hA e=>by
   unfold gF at e⊢;have R:=py H M.bH.length;rw[yC,I,<-R.2];have K:(nn h (M.bH.getD q dG)).arcs.length=(M.bH.getD q dG).arcs.length:=lM _;rw[K]
   cases y:bd (eS O (M.bH.getD q dG).arcs) (M.bH.getD q dG).arcs.length 0 (bu O M.bH.length)with
   |none=>rw[y]at e;cases e
   | some r=>
    rw[y]at e;obtain rfl:=oI e;obtain⟨Y,h4⟩:=ey (VB:=bp V) (H:=List.map h) (g:=eS P (nn h (M.bH.getD q dG)).arcs) (λl k l' o e=>by
     unfold eS at e⊢;show _/\(if(((M.bH.getD q dG).arcs.map (mapA h)).getD k (cd P)).i≠0\/(((M.bH.getD q dG).arcs.map (mapA h)).getD k (cd P)).o≠0 then some (l.map h)else match P.plus ((l.map h).getD (((M.bH.getD q dG).arcs.map (mapA h)).getD k (cd P)).t P.zero) (((M.bH.getD q dG).arcs.map (mapA h)).getD k (cd P)).w with
      |none=>none
      |some s=>some ((l.map h).set (((M.bH.getD q dG).arcs.map (mapA h)).getD k (cd P)).t s))=_
     rw[BK H];have hw:=MM H (Q8 vm q) k;generalize (M.bH.getD q dG).arcs.getD k (cd O)=c at*;show _/\(if c.i≠0\/c.o≠0 then some (l.map h)else match P.plus ((l.map h).getD c.t P.zero) (h c.w)with
      |none=>none
      |some s=>some ((l.map h).set c.t s))=_
     split at e
     ·next g=>rw[if_pos g];obtain rfl:=oI e;exact⟨o,rfl⟩
     ·next g=>
      rw[if_neg g,H.getD]
      cases a:O.plus (l.getD c.t O.zero) c.w with
      |none=>rw[a]at e;cases e
      |some s=>
       rw[a]at e;obtain⟨F,z⟩:=H.plus (H.at_ o c.t) hw a;obtain rfl:=oI e;rw[z];exact⟨o.set F _,by rw[map_set]⟩) _ _ _ _ R.1 y
    rw[h4];exact⟨hA.snoc Y,by rw[map_append];rfl⟩) _ _ _ _ (λx d=>by cases d) J
  have t:bd (gF P (mapM h M)) M.bH.length 0 []=some (A.map (List.map h)):=t;rw[t];dsimp only at e⊢;have ha:ox (mapM h M)=ox M:=by
   unfold ox;show(M.bH.map (nn h)).any _=_;rw[List.any_map];congr 1;funext s;show((s.arcs.map (mapA h)).any _)=_;rw[List.any_map];rfl
  rw[ha];split at e
  ·next c=>
   rw[if_pos c];split at e
   ·cases e
   ·next c2=>
    rw[if_neg c2]
    cases a:jJ O A with
    |none=>rw[a]at e;cases e
    | some B=>
     rw[a]at e;obtain rfl:=oI e;have m:bp (bp V) B/\jJ P (A.map (List.map h))=some (B.map (List.map h)):=by
      unfold jJ at a⊢;rw[lM]
      cases u:bd (ff O) A.length 0 A with
      |none=>rw[u]at a;cases a
      | some C=>
       rw[u]at a;obtain⟨F,z⟩:=ey (VB:=bp (bp V)) (H:=List.map (List.map h)) (g:=ff P) (λB k S b e=>by
        unfold ff at e⊢;rw[od H,lM]
        cases E:O.star (bP O B k k)with
        |none=>rw[E]at e;cases e
        | some s=>
         rw[E]at e;obtain⟨h7,h8⟩:=H.star (mJ H b k k) E;rw[h8];refine ey (VB:=bp (bp V)) (H:=List.map (List.map h)) (λC i C' W e=>?_) _ _ _ _ (λx d=>by cases d) e;unfold iF at e⊢;rw[lM]
         cases w:bd (cm O B s k i) B.length 0 []with
         |none=>rw[w]at e;cases e
         | some r=>
          rw[w]at e;obtain rfl:=oI e;obtain⟨h9,f⟩:=ey (VB:=bp V) (H:=List.map h) (g:=cm P (B.map (List.map h)) (h s) k i) (λr j r' T e=>by
           unfold cm at e⊢;rw[od H,od H,od H,H.wY (mJ H b i k),H.wY (mJ H b k j)];split at e
           ·next g=>rw[if_pos g];obtain rfl:=oI e;exact⟨T.snoc (mJ H b i j),by rw[map_append];rfl⟩
           ·next g=>
            rw[if_neg g]
            cases D:O.times (bP O B i k) s with
            |none=>rw[D]at e;cases e
            | some p=>
             rw[D]at e;obtain⟨Z,U⟩:=H.times (mJ H b i k) h7 D;rw[U];dsimp only at e⊢
             cases n:O.times p (bP O B k j)with
             |none=>rw[n]at e;cases e
             | some X=>
              rw[n]at e;obtain⟨u3,u4⟩:=H.times Z (mJ H b k j) n;rw[u4];dsimp only at e⊢
              cases v:O.plus (bP O B i j) X with
              |none=>rw[v]at e;cases e
              |some c=>
               rw[v]at e;obtain⟨u5,u6⟩:=H.plus (mJ H b i j) u3 v;rw[u6];obtain rfl:=oI e;exact⟨T.snoc u5,by rw[map_append];rfl⟩) _ _ _ _ (λx d=>by cases d) w
          have f:bd (cm P (B.map (List.map h)) (h s) k i) B.length 0 []=some (r.map h):=f;rw[f];exact⟨W.snoc h9,by rw[map_append];rfl⟩) _ _ _ _ h1 u
       rw[z];dsimp only at a⊢;refine ey (VB:=bp (bp V)) (H:=List.map (List.map h)) (λB i S b e=>?_) _ _ _ _ F a;unfold nG at e⊢;rw[od H,<-H.one.2]
       cases G:O.plus O.one (bP O B i i)with
       |none=>rw[G]at e;cases e
       |some s=>
        rw[G]at e;obtain⟨N,Q⟩:=H.plus H.one.1 (mJ H b i i) G;rw[Q];obtain rfl:=oI e;have hg:(B.map (List.map h)).getD i []=(B.getD i []).map h:=sS (h:=List.map h) B i [];have L:bp V (B.getD i []):=oA b (λx d=>by cases d) i;exact⟨bp.set (V:=bp V) b (L.set N i) i,by rw[map_set,hg,map_set]⟩
     rw[m.2];exact⟨λS e=>by obtain rfl:=oI e;exact m.1,rfl⟩
  grind
theorem KH{v d:List α}(b:bp V v){B:Option (List (List α))}(a:∀C,B=some C->bp (bp V) C)(e:fK O v B=some d):bp V d/\fK P (v.map h) (B.map (List.map (List.map h)))=some (d.map h):=by
 cases B with
 |none=>obtain rfl:=oI e;exact⟨b,rfl⟩
 |some B=>
  have a:=a B rfl;have i:=py H v.length;show _/\bd (λl q=>bd (fC P (v.map h) (B.map (List.map h)) q) (v.map h).length 0 l) (v.map h).length 0 (bu P (v.map h).length)=_;rw[lM,<-i.2];refine ey (VB:=bp V) (H:=List.map h) (λl q f c e=>?_) _ _ _ _ i.1 e;refine ey (VB:=bp V) (H:=List.map h) (λl p f c e=>?_) _ _ _ _ c e;unfold fC at e⊢;rw[H.getD,od H,H.wY (H.at_ b q),H.wY (mJ H a q p)];split at e
  ·grind
  ·next g=>rw[if_neg g];exact vw H c (H.at_ b q) (mJ H a q p) e
theorem NR{M:fT α}(n:BI V M){v:List α}{c:α}(i:bp V v)(e:oz O M v=some c):V c/\oz P (mapM h M) (v.map h)=some (h c):=by
 unfold oz at e⊢;rw[lM]
 cases b:bd (jH O M v) v.length 0 [O.zero]with
 |none=>grind
 | some l=>
  rw[b]at e;obtain rfl:=oI e;obtain⟨m,a⟩:=ey (VB:=bp V) (H:=List.map h) (g:=jH P (mapM h M) (v.map h)) (λl q o j e=>by
   unfold jH at e⊢;rw[yC,H.getD];show _/\(match (M.bH.getD q dG).fin.map h with|none=>some (l.map h)|some f=>gj P (l.map h) 0 (h (v.getD q O.zero)) f)=_
   cases d:(M.bH.getD q dG).fin with
   |none=>grind
   |some f=>rw[d]at e;exact vw H j (H.at_ i q) (VI n q d) e) _ _ _ _ (λx k=>by rw[mem_singleton.1 k];exact H.zero.1) b
  have a:bd (jH P (mapM h M) (v.map h)) v.length 0 [h O.zero]=some (l.map h):=a;rw[H.zero.2]at a;rw[a];dsimp only;rw[H.getD];exact⟨H.at_ m 0,rfl⟩
omit H in
theorem yw(T:List (List (List α)))(i j:Nat):dE (T.map (List.map (List.map h))) i j=(dE T i j).map h:=by grind[dE]
omit H in
theorem vH(T:List (List (List α)))(i j:Nat)(v:List α):fg (T.map (List.map (List.map h))) i j (v.map h)=(fg T i j v).map (List.map (List.map h)):=by grind[map_set,fg]
omit H in
theorem Ga{T:List (List (List α))}(b:bp (bp (bp V)) T)(i j:Nat):bp V (dE T i j):=
 oA (V:=bp V) (oA (V:=bp (bp V)) b (λx a=>by grind) i) (λx a=>by grind) j
omit H in
theorem B1{T:List (List (List α))}(a:bp (bp (bp V)) T){v:List α}(b:bp V v)(i j:Nat):bp (bp (bp V)) (fg T i j v):=
 bp.set (V:=bp (bp V)) a (bp.set (V:=bp V) (oA (V:=bp (bp V)) a (λx c=>by grind) i) b j) i
theorem Gm{M:fT α}(b:BI V M){x y:List Int}{w:α}(e:eA O M x y=some w):V w/\eA P (mapM h M) x y=some (h w):=by
 unfold eA at e⊢
 cases m:dP O M with
 |none=>grind
 | some B=>
  rw[m]at e;obtain⟨A,C⟩:=Gf H b m;rw[C];dsimp only at e⊢;have f:=py H M.bH.length;have t:(mapM h M).bH.length=M.bH.length:=lM _;have u:bp (bp (bp V)) (jX O M x y)/\jX P (mapM h M) x y=(jX O M x y).map (List.map (List.map h)):=by
   unfold jX;refine⟨B1 (bp.rep (bp.rep f.1 _) _) (f.1.set b.lead _) 0 0,?_⟩;rw[<-vH,map_set,List.map_replicate,List.map_replicate,f.2,t];rfl
  cases o:bd (qV O M B x y) (x.length+1) 0 (jX O M x y)with
  |none=>grind
  | some T=>
   rw[o]at e;obtain⟨G,I⟩:=ey (VB:=bp (bp (bp V))) (H:=List.map (List.map (List.map h))) (g:=qV P (mapM h M) (B.map (List.map (List.map h))) x y) (λT i n a e=>by
    unfold qV at e⊢;refine ey (VB:=bp (bp (bp V))) (H:=List.map (List.map (List.map h))) (λT j n a e=>?_) _ _ _ _ a e;unfold mL at e⊢;rw[yw]
    cases c:fK O (dE T i j) B with
    |none=>rw[c]at e;cases e
    | some v=>
     rw[c]at e;obtain⟨q,F⟩:=KH H (Ga a i j) A c;rw[F];dsimp only at e⊢;rw[vH];refine ey (VB:=bp (bp (bp V))) (H:=List.map (List.map (List.map h))) (λT k n a e=>?_) _ _ _ _ (B1 a q i j) e;unfold oB at e⊢;split at e
     ·next g=>rw[if_pos g];obtain rfl:=oI e;exact⟨a,rfl⟩
     ·next g=>
      rw[if_neg g]
      cases d:kL O M v (bK x i (k%2)) (bK y j (k/2))with
      |none=>rw[d]at e;cases e
      | some s=>
       rw[d]at e;obtain⟨D,z⟩:=H8 H b q d;rw[z];dsimp only at e⊢;rw[yw]
       cases l:np O (dE T (i+k%2) (j+k/2)) s with
       |none=>rw[l]at e;cases e
       |some r=>
        rw[l]at e;obtain⟨E,p⟩:=KN H (Ga a _ _) D l;rw[p];dsimp only at e⊢;obtain rfl:=oI e;exact⟨B1 a E _ _,by rw[vH]⟩) _ _ _ _ u.1 o
   grind[yw,NR,Ga]
end
end
end Go.Num
end
section
namespace Go.Num
variable{n:Nat}
namespace ba
variable {K:Type} {S:ba K}
def dot(S:ba K)(u v:Nat->K)(n:Nat):K:=S.cV (λi=>S.mul (u i) (v i)) n
theorem Mm{a:Nat->Nat->K}{c x:Nat->K}(d:∀i,i<n->S.le (S.add (c i) (S.cV (λj=>S.mul (a i j) (x j)) n)) (x i))
  (e:∀y:Nat->K,(∀i,i<n->S.le (S.add (c i) (S.cV (λj=>S.mul (a i j) (y j)) n)) (y i))->∀i,i<n->S.le (x i) (y i)):∀i,i<n->x i=Hv S a n c i:=
 λi b=>S.GN (e _ (λj _=>le_of_eq (Dm a n c j).symm) i b) (FN a d b)
theorem Qx{a b:Nat->Nat->K}{c d:Nat->K}(f:∀i j,i<n->j<n->a i j=b i j)(g:∀i,i<n->c i=d i):∀i,i<n->Hv S a n c i=Hv S b n d i:=by
 refine Mm (λi e=>?_) λy h i e=>FN a (λi e=>?_) e
 all_goals grind[le_of_eq,Dm,aN]
end ba
end Go.Num
end
section
namespace Go.Num
variable{p:List Int}
namespace ba
variable {K:Type} {S:ba K}
def gW{b:Type}(S:ba K)(f:b->K):List b->K
 |[]=>S.zero
 |a::l=>S.add (f a) (gW S f l)
theorem gx{b:Type}{f g:b->K}:∀{l:List b},(∀a∈l,f a=g a)->gW S f l=gW S g l
 |[],_=>rfl
 |a::l,h=>by
  show S.add _ _=S.add _ _;rw[h a (mem_cons_self ..),gx λx c=>h x (List.mem_cons_of_mem _ c)]
theorem Dr{b:Type}(f g:b->K):∀l:List b,gW S (λa=>S.add (f a) (g a)) l=S.add (gW S f l) (gW S g l)
 |[]=>(S.zero_add _).symm
 |a::l=>by
  show S.add _ (gW S _ l)=S.add (S.add _ _) (S.add _ _);rw[Dr f g l,aaK]
theorem yf{b:Type}(c:K)(f:b->K):∀l:List b,gW S (λa=>S.mul c (f a)) l=S.mul c (gW S f l)
 |[]=>(mul_zero c).symm
 |a::l=>by
  show S.add _ (gW S _ l)=S.mul c (S.add _ _);rw[yf c f l,S.mul_add]
theorem Ds{a c:Type}(g:c->a)(f:a->K):∀l:List c,gW S f (l.map g)=gW S (λb=>f (g b)) l
 |[]=>rfl
 |b::l=>by
  show S.add _ (gW S f (l.map g))=S.add _ _;rw[Ds g f l]
theorem oj{b:Type}:∀l:List b,gW S (λ_=>S.zero) l=S.zero
 |[]=>rfl
 |a::l=>by
  show S.add _ (gW S _ l)=_;rw[oj l,S.zero_add]
end ba
structure BH(K:Type) where
 i:Int
 o:Int
 w:K
 t:Nat
structure dK(K:Type) where
 n:Nat
 fin:Nat->K
 arcs:Nat->List (BH K)
def gX(s:Int)(x:List Int):Option (List Int):=if s=0 then some x else match x with
 |[]=>none
 |c::r=>if c=s then some r else none
namespace dK
open ba
variable {K:Type} (S:ba K) (M:dK K)
def Qt(q p:Nat):K:=gW S (λa=>if a.i=0/\a.o=0/\a.t=p then a.w else S.zero) (M.arcs q)
def go(W:List Int->List Int->Nat->K)(x y:List Int)(a:BH K):K:=if a.i=0/\a.o=0 then S.zero else match gX a.i x,gX a.o y with
 |some c,some b=>S.mul a.w (W c b a.t)
 |_,_=>S.zero
def tail(W:List Int->List Int->Nat->K)(x y:List Int)(q:Nat):K:=S.add (if x=[]/\y=[]then M.fin q else S.zero) (gW S (go S W x y) (M.arcs q))
def HB:Nat->List Int->List Int->Nat->K
 |0,x,y=>Hv S (Qt S M) M.n (tail S M (λ_ _ _=>S.zero) x y)
 |f+1,x,y=>Hv S (Qt S M) M.n (tail S M (HB f) x y)
def val(x y:List Int):Nat->K:=HB S M (x.length+y.length) x y
variable {S M}
theorem M5{s:Int}{x:List Int}(h:gX s x=some p):p.length+(if s=0 then 0 else 1)=x.length:=by
 unfold gX at h
 grind
theorem SE{W d:List Int->List Int->Nat->K}{x:List Int}{a:BH K}(h:∀c b,c.length+b.length<x.length+p.length->W c b a.t=d c b a.t):go S W x p a=go S d x p a:=by
 unfold go;split
 ·rfl
 ·next g=>
  cases e:gX a.i x with
  |none=>rfl
  | some c=>
   cases f:gX a.o p with
   |none=>rfl
   |some b=>
    dsimp only;have i:=M5 e;have j:=M5 f
    grind
theorem sg{W W':List Int->List Int->Nat->K}{x:List Int}(h:∀b a,b.length+a.length<x.length+p.length->W b a=W' b a):tail S M W x p=tail S M W' x p:=by grind[gx,SE,tail]
theorem HC:∀{f g:Nat}{x y:List Int},x.length+y.length<=f->x.length+y.length<=g->HB S M f x y=HB S M g x y
 |0,0,_,_,_,_=>rfl
 |0,g+1,x,y,h,_=>by grind[sg,HB]
 |f+1,0,x,y,_,h=>by grind[sg,HB]
 |f+1,g+1,x,y,c,e=>by
  show Hv S _ _ (tail S M _ x y)=Hv S _ _ (tail S M _ x y);rw[sg (W:=HB S M f) (W':=HB S M g) λd a b=>HC (by omega) (by omega)]
theorem Mv(x y:List Int):val S M x y=Hv S (Qt S M) M.n (tail S M (val S M) x y):=by
 have h:val S M x y=HB S M (x.length+y.length+1) x y:=HC (Nat.le_refl _) (Nat.le_succ _);rw[h];show Hv S _ _ (tail S M _ x y)=_;rw[sg (W':=val S M) λc a b=>HC (by omega) (Nat.le_refl _)]
end dK
end Go.Num
end
section
namespace Go.Num
variable{n:Nat}
namespace ba
variable {K:Type} {S:ba K}
theorem FX{f:Nat->K}(h:∀i,i<n->f i=S.zero):S.cV f n=S.zero:=by grind[aN,gb]
theorem wc(f:Nat->K){a m n:Nat}(h:a+m<=n):S.cV (λj=>if a<=j/\j<a+m then f j else S.zero) n=S.cV (λp=>f (a+p)) m:=by
 rw[qK a (by omega:a<=n),FX (λi b=>by rw[if_neg (by omega)]),S.zero_add];rw[qK m (by omega:m<=n-a)];rw[aN (f:=λi=>if a<=a+i/\a+i<a+m then f (a+i)else S.zero) (g:=λp=>f (a+p)) (n:=m) λi b=>by rw[if_pos (by omega)]];simp[FX,if_neg,add_zero]
end ba
end Go.Num
end
section
namespace Go.Num
open ba
section
variable {K:Type} {S:ba K}
def emp(S:ba K)(x y:List Int)(k:K):K:=if x=[]/\y=[]then k else S.zero
end
section
variable {K:Type} {S:ba K}
theorem Gk{C:dK K}{q:Nat}(s:q<C.n)(d:∀a∈C.arcs q,a.i=0/\a.o=0/\a.t<C.n)(x y:List Int):dK.val S C x y q=S.add (emp S x y (C.fin q)) (gW S (λa=>S.mul a.w (dK.val S C x y a.t)) (C.arcs q)):=by
 have f:∀q,dK.val S C x y q=Hv S (dK.Qt S C) C.n (dK.tail S C (dK.val S C) x y) q:=λq=>by rw[dK.Mv (S:=S) (M:=C) x y]
 rw[f,Dm];have j:dK.tail S C (dK.val S C) x y q=emp S x y (C.fin q):=by
  unfold dK.tail emp;rw[gx (g:=λ_=>S.zero) λa h=>?_,oj,add_zero];unfold dK.go;rw[if_pos ⟨(d a h).1,(d a h).2.1⟩]
 rw[j];congr 1;have o:∀l,S.mul (dK.Qt S C q l) (Hv S (dK.Qt S C) C.n (dK.tail S C (dK.val S C) x y) l)=gW S (λa=>if a.t=l then S.mul a.w (dK.val S C x y l)else S.zero) (C.arcs q):=λl=>by
  show S.mul (gW S (λa=>if a.i=0/\a.o=0/\a.t=l then a.w else S.zero) (C.arcs q)) _=_;rw[S.mul_comm,<-yf];refine gx λa h=>?_;obtain⟨k,n,_⟩:=d a h;by_cases c:a.t=l
  ·rw[if_pos ⟨k,n,c⟩,if_pos c,S.mul_comm,<-f]
  ·rw[if_neg λe=>c e.2.2,if_neg c,mul_zero]
 rw[aN λl _=>o l];have r:∀l:List (BH K),(∀a∈l,a.t<C.n)->S.cV (λp=>gW S (λa=>if a.t=p then S.mul a.w (dK.val S C x y p)else S.zero) l) C.n=gW S (λa=>S.mul a.w (dK.val S C x y a.t)) l:=λl=>by
  induction l with
  |nil=>intro _;exact gb _
  | cons a l m=>
   intro h;show S.cV (λp=>S.add (if a.t=p then S.mul a.w (dK.val S C x y p)else S.zero) (gW S _ l)) C.n=S.add _ _;rw[ja,m λb i=>h b (List.mem_cons_of_mem _ i)];congr 1;have t:=h a (mem_cons_self ..);rw[aN (g:=λp=>if a.t<=p/\p<a.t+1 then S.mul a.w (dK.val S C x y p)else S.zero) λp _=>by
    by_cases c:a.t=p
    ·rw[if_pos c,if_pos (by omega)]
    ·rw[if_neg c,if_neg (by omega)]]
   rw[wc (λp=>S.mul a.w (dK.val S C x y p)) (show a.t+1<=C.n by omega)];show S.add S.zero (S.mul a.w (dK.val S C x y (a.t+0)))=_;rw[S.zero_add,Nat.add_zero]
 grind
abbrev acD(K:Type):=List Int->List Int->K
end
variable{A:Type}
section
variable {K:Type}
noncomputable def aq(S:ba K):pX K:=⟨S.zero,S.one,λa=>@decide (a=S.zero) (Classical.propDecidable _),λa b=>some (S.add a b),λa b=>some (S.mul a b),λa=>some (S.star a)⟩
variable {S:ba K}
def vec(S:ba K)(l:List K)(p:Nat):K:=l.getD p S.zero
theorem tR{a:K}:(aq S).wY a=true↔a=S.zero:=@decide_eq_true_iff (a=S.zero) (Classical.propDecidable _)
theorem tW{l:List K}{t p:Nat}(a:K)(b:t<l.length):vec S (l.set t a) p=if p=t then a else vec S l p:=by
 unfold vec
 grind
theorem qx(n p:Nat):vec S (List.replicate n S.zero) p=S.zero:=by grind[vec]
theorem mg{f:List K->Nat->Option (List K)}{n:Nat}{c:Nat->Nat->K}:∀(m i:Nat)(l:List K),(∀(l:List K)(k:Nat),i<=k->k<i+m->l.length=n->∃a,f l k=some a/\a.length=n/\∀p,p<n->vec S a p=S.add (vec S l p) (c k p))->l.length=n->
  ∃a,bd f m i l=some a/\a.length=n/\∀p,p<n->vec S a p=S.add (vec S l p) (S.cV (λj=>c (i+j) p) m)
 |0,i,l,_,b=>⟨l,rfl,b,λp _=>(add_zero _).symm⟩
 |m+1,i,l,d,b=>by
  obtain⟨q,h,o,g⟩:=d l i (Nat.le_refl _) (by omega) b;obtain⟨u,r,t,s⟩:=mg m (i+1) q (λl k w v=>d l k (by omega) (by omega)) o;refine⟨u,by unfold bd;rw[h];exact r,t,λp e=>?_⟩;rw[s p e,g p e,S.add_assoc];congr 1;rw[qK (S:=S) (f:=λj=>c (i+j) p) 1 (n:=m+1) (by omega)];congr 1
  ·exact(S.zero_add _).symm
  grind
theorem oD{a:Type}{f:List a->Nat->Option (List a)}{c:Nat->a}:∀(m i:Nat)(l:List a),(∀(l:List a)(k:Nat),i<=k->k<i+m->f l k=some (l++[c k]))->bd f m i l=some (l++(List.range m).map λj=>c (i+j))
 |0,i,l,_=>by simp[bd]
 |m+1,i,l,b=>by
  unfold bd;rw[b l i (Nat.le_refl _) (by omega)];show bd f m (i+1) _=_;rw[oD m (i+1) _ λl k d e=>b l k (by omega) (by omega),List.range_succ_eq_map,List.map_cons,List.map_map,append_assoc];congr 2;show c i::_=c (i+0)::_;congr 1;exact List.map_congr_left λj _=>by grind
theorem sX{b:Type}(F:b->K)(d:b):∀l:List b,S.cV (λk=>F (l.getD k d)) l.length=gW S F l
 |[]=>rfl
 |a::l=>by
  rw[List.length_cons,qK (S:=S) 1 (n:=l.length+1) (by omega)];show S.add (S.add S.zero (F a)) _=S.add (F a) _;rw[S.zero_add,<-sX F d l]
  grind
theorem BJ{l:List K}{t:Nat}(a b:K)(d:t<l.length):∃c,gj (aq S) l t a b=some c/\c.length=l.length/\∀p,vec S c p=S.add (vec S l p) (if t=p then S.mul a b else S.zero):=by
 refine⟨l.set t (S.add (vec S l t) (S.mul a b)),rfl,length_set,λp=>?_⟩;rw[tW _ d];by_cases e:t=p
 ·grind
 ·rw[if_neg λh=>e h.symm,if_neg e,add_zero]
def gI(i o:Int)(p:Nat)(a:jg K):Prop:=a.i=i/\a.o=o/\a.t=p
instance (i o:Int) (p:Nat) (a:jg K):Decidable (gI i o p a):=inferInstanceAs (Decidable (_/\_/\_))
def bD(M:fT K)(q:Nat):List (jg K):=(M.bH.getD q dG).arcs
def kK(M:fT K):Prop:=∀s∈M.bH,∀a∈s.arcs,a.t<M.bH.length
theorem kK.at_{M:fT K}(g:kK M){q k:Nat}(a:k<(bD M q).length):((bD M q).getD k (cd (aq S))).t<M.bH.length:=by
 unfold bD at*;rcases sV (M:=M) q with e|e
 ·rw[e]at a;exact absurd a (Nat.not_lt_zero _)
 ·rw[gD,gE a];exact g _ e _ (getElem_mem a)
theorem Ra{M:fT K}(g:kK M)(v:List K)(i o:Int):∃l,kL (aq S) M v i o=some l/\l.length=M.bH.length/\∀p,p<M.bH.length->vec S l p=S.cV (λq=>gW S (λa=>if gI i o p a then S.mul (vec S v q) a.w else S.zero) (bD M q)) M.bH.length:=by
 obtain⟨l,y,A,w⟩:=mg (S:=S) (f:=qu (aq S) M v i o) (n:=M.bH.length) (c:=λq p=>gW S (λa=>if gI i o p a then S.mul (vec S v q) a.w else S.zero) (bD M q)) M.bH.length 0 (bu (aq S) M.bH.length) (λl q _ _ b=>by
  unfold qu;have t:(aq S).wY (v.getD q (aq S).zero)=true↔vec S v q=S.zero:=tR;by_cases r:vec S v q=S.zero
  ·rw[if_pos (t.2 r)];refine⟨l,rfl,b,λp _=>?_⟩;rw[r,gx (g:=λ_=>S.zero) λa _=>by split;exact S.zero_mul _;rfl,oj,add_zero]
  ·rw[if_neg λh=>r (t.1 h)];obtain⟨m,u,C,z⟩:=mg (S:=S) (f:=jK (aq S) i o (vec S v q) (bD M q)) (n:=M.bH.length) (c:=λk p=>if gI i o p ((bD M q).getD k (cd (aq S)))then S.mul (vec S v q) ((bD M q).getD k (cd (aq S))).w else S.zero) (bD M q).length 0 l (λl k _ F b=>by
    unfold jK;by_cases d:((bD M q).getD k (cd (aq S))).i≠i\/((bD M q).getD k (cd (aq S))).o≠o
    ·rw[if_pos d];exact⟨l,rfl,b,λp _=>by rw[if_neg λh=>d.elim (λx=>x h.1) (λx=>x h.2.1),add_zero]⟩
    ·rw[if_neg d];obtain⟨m,D,B,E⟩:=BJ (S:=S) (l:=l) (vec S v q) ((bD M q).getD k (cd (aq S))).w (by rw[b];exact g.at_ (S:=S) (q:=q) (k:=k) (by omega));refine⟨m,D,by rw[B,b],λp _=>?_⟩;rw[E p];congr 1;by_cases e:((bD M q).getD k (cd (aq S))).t=p
     ·rw[if_pos e,if_pos];exact⟨Classical.byContradiction λx=>d (.inl x),Classical.byContradiction λx=>d (.inr x),e⟩
     ·rw[if_neg e,if_neg λh=>e h.2.2]) b
   refine⟨m,u,C,λp s=>?_⟩;rw[z p s];congr 1;have:=sX (S:=S) (λa=>if gI i o p a then S.mul (vec S v q) a.w else S.zero) (cd (aq S)) (bD M q);rw[<-this];exact aN λj _=>by rw[Nat.zero_add]) length_replicate
 refine⟨l,y,A,λp s=>?_⟩;rw[w p s];have:vec S (bu (aq S) M.bH.length) p=S.zero:=qx _ _;rw[this,S.zero_add]
 grind
theorem mc(c:Nat->A)(d:A){n i:Nat}(h:i<n):((List.range n).map c).getD i d=c i:=by grind
theorem VJ(a b:List K):∃l,np (aq S) a b=some l/\l.length=a.length/\∀p,p<a.length->vec S l p=S.add (vec S a p) (vec S b p):=by
 have h:=oD (f:=wE (aq S) a b) (c:=λi=>S.add (vec S a i) (vec S b i)) a.length 0 [] (λl k _ _=>rfl);refine⟨_,h,by simp,λp d=>?_⟩
 simp_all[vec]
def eG(S:ba K)(M:fT K):dK K:=⟨M.bH.length,λq=>(M.bH.getD q dG).fin.getD S.zero,λq=>(bD M q).map λa=>⟨a.i,a.o,a.w,a.t⟩⟩
def yz(S:ba K)(M:fT K)(q p:Nat):K:=gW S (λa=>if gI 0 0 p a then a.w else S.zero) (bD M q)
theorem H7(M:fT K)(q p:Nat):dK.Qt S (eG S M) q p=yz S M q p:=by
 show gW S _ ((bD M q).map _)=_;rw[Ds];rfl
theorem F9(B:List (List K))(i j:Nat):bP (aq S) B i j=vec S (B.getD i []) j:=rfl
theorem VF{M:fT K}(g:kK M):∃A,bd (gF (aq S) M) M.bH.length 0 []=some A/\A.length=M.bH.length/\∀q p,q<M.bH.length->p<M.bH.length->bP (aq S) A q p=yz S M q p:=by
 have e:∀q,∃r,bd (eS (aq S) (bD M q)) (bD M q).length 0 (bu (aq S) M.bH.length)=some r/\∀p,p<M.bH.length->vec S r p=yz S M q p:=λq=>by
  obtain⟨o,m,y,t⟩:=mg (S:=S) (f:=eS (aq S) (bD M q)) (n:=M.bH.length) (c:=λk p=>if gI 0 0 p ((bD M q).getD k (cd (aq S)))then((bD M q).getD k (cd (aq S))).w else S.zero) (bD M q).length 0 (bu (aq S) M.bH.length) (λl k _ w i=>by
   unfold eS;by_cases d:((bD M q).getD k (cd (aq S))).i≠0\/((bD M q).getD k (cd (aq S))).o≠0
   ·rw[if_pos d];exact⟨l,rfl,i,λp _=>by rw[if_neg λh=>d.elim (λx=>x h.1) (λx=>x h.2.1),add_zero]⟩
   ·rw[if_neg d];have v:((bD M q).getD k (cd (aq S))).t<l.length:=by rw[i];exact g.at_ (S:=S) (q:=q) (k:=k) (by omega)
    refine⟨_,rfl,by rw[length_set,i],λp _=>?_⟩;have:=tW (S:=S) (p:=p) (S.add (vec S l ((bD M q).getD k (cd (aq S))).t) ((bD M q).getD k (cd (aq S))).w) v;refine this.trans ?_;by_cases b:p=((bD M q).getD k (cd (aq S))).t
    ·rw[if_pos b,if_pos,b];exact⟨Classical.byContradiction λx=>d (.inl x),Classical.byContradiction λx=>d (.inr x),b.symm⟩
    ·rw[if_neg b,if_neg λh=>b h.2.2.symm,add_zero]) length_replicate
  refine⟨o,m,λp b=>?_⟩;rw[t p b];have u:vec S (bu (aq S) M.bH.length) p=S.zero:=qx _ _;rw[u,S.zero_add];have:=sX (S:=S) (λa=>if gI 0 0 p a then a.w else S.zero) (cd (aq S)) (bD M q);unfold yz;rw[<-this];exact aN λj _=>by rw[Nat.zero_add]
 have h:=oD (f:=gF (aq S) M) (c:=λq=>(e q).choose) M.bH.length 0 [] (λl k _ _=>by
  unfold gF;have:=(e k).choose_spec.1;unfold bD at this;rw[this];rfl)
 refine⟨_,h,by simp,λq p s b=>?_⟩;rw[F9,List.nil_append,mc _ _ s,Nat.zero_add]
 grind
theorem Ge(B:List (List K))(k:Nat)(a:Nat->Nat->K)(m:k<B.length)(g:∀i j,i<B.length->j<B.length->bP (aq S) B i j=elim S a k i j):∃C,ff (aq S) B k=some C/\C.length=B.length/\∀i j,i<B.length->j<B.length->bP (aq S) C i j=elim S a (k+1) i j:=by
 have n:∀i j,i<B.length->j<B.length->∀r,cm (aq S) B (S.star (bP (aq S) B k k)) k i r j=some (r++[elim S a (k+1) i j]):=λi j b d r=>by
  unfold cm;have e:elim S a (k+1) i j=S.add (bP (aq S) B i j) (S.mul (S.mul (bP (aq S) B i k) (S.star (bP (aq S) B k k))) (bP (aq S) B k j)):=by
   rw[g i j b d,g i k b m,g k k m m,g k j m d];rfl
  by_cases c:((aq S).wY (bP (aq S) B i k)||(aq S).wY (bP (aq S) B k j))=true
  ·rw[if_pos c,e];congr 3;rw[Bool.or_eq_true,tR,tR]at c;rcases c with c|c
   ·rw[c,S.zero_mul,S.zero_mul,add_zero]
   grind[mul_zero,add_zero]
  ·rw[if_neg c,e];rfl
 have o:∀i,i<B.length->bd (cm (aq S) B (S.star (bP (aq S) B k k)) k i) B.length 0 []=some ((List.range B.length).map λj=>elim S a (k+1) i j):=λi b=>by
  have:=oD (f:=cm (aq S) B (S.star (bP (aq S) B k k)) k i) (c:=λj=>elim S a (k+1) i j) B.length 0 [] (λl j _ d=>n i j b (by omega) l)
  grind
 have h:=oD (f:=iF (aq S) B (S.star (bP (aq S) B k k)) k) (c:=λi=>(List.range B.length).map λj=>elim S a (k+1) i j) B.length 0 [] (λl i _ b=>by grind[iF]);refine⟨_,h,by simp,λi j b d=>?_⟩;rw[F9,List.nil_append,mc _ _ b,Nat.zero_add];exact mc _ _ d
theorem HY(a:Nat->Nat->K):∀(m k:Nat)(B:List (List K)),k+m=B.length->(∀i j,i<B.length->j<B.length->bP (aq S) B i j=elim S a k i j)->∃C,bd (ff (aq S)) m k B=some C/\C.length=B.length/\∀i j,i<B.length->j<B.length->bP (aq S) C i j=elim S a (k+m) i j
 |0,k,B,_,b=>⟨B,rfl,rfl,b⟩
 |m+1,k,B,d,b=>by
  obtain⟨C,e,f,c⟩:=Ge B k a (by omega) b;obtain⟨D,g,o,l⟩:=HY a m (k+1) C (by omega) (λi j h n=>c i j (by omega) (by omega))
  grind[bd]
theorem HR:∀(m k:Nat)(B:List (List K)),k+m=B.length->(∀i,i<B.length->(B.getD i []).length=B.length)->∃C,bd (nG (aq S)) m k B=some C/\∀i j,i<B.length->j<B.length->bP (aq S) C i j=if i=j/\k<=i then S.add S.one (bP (aq S) B i j)else bP (aq S) B i j
 |0,k,B,f,b=>⟨B,rfl,λi j a d=>by grind⟩
 | m+1,k,B,f,b=>by
  have n:k<B.length:=by omega
  obtain⟨C,g,l⟩:=HR m (k+1) (B.set k ((B.getD k []).set k (S.add S.one (bP (aq S) B k k)))) (by rw[length_set];omega) (λi a=>by
   rw[length_set]at a;rw[gD,List.getElem?_set,length_set];by_cases e:k=i
   ·subst e;rw[if_pos rfl,if_pos a,getD_some,length_set];exact b k a
   ·rw[if_neg e,<-gD];exact b i a)
  refine⟨C,g,λi j a d=>?_⟩;rw[l i j (by rw[length_set];exact a) (by rw[length_set];exact d)];have e:bP (aq S) (B.set k ((B.getD k []).set k (S.add S.one (bP (aq S) B k k)))) i j=if i=k/\j=k then S.add S.one (bP (aq S) B k k)else bP (aq S) B i j:=by
   rw[F9,gD,List.getElem?_set];by_cases e:k=i
   ·subst e;rw[if_pos rfl,if_pos a,getD_some,tW _ (by rw[b k a];exact a)];by_cases c:j=k
    ·rw[if_pos c,if_pos ⟨rfl,c⟩]
    ·rw[if_neg c,if_neg λh=>c h.2];rfl
   ·rw[if_neg e,<-gD,if_neg λh=>e h.1.symm];rfl
  grind
theorem B3:∀{m k:Nat}{B C:List (List K)},bd (ff (aq S)) m k B=some C->(∀i,i<B.length->(B.getD i []).length=B.length)->∀i,i<C.length->(C.getD i []).length=C.length
 |0,k,B,C,h,y=>by obtain rfl:=oI h;omega
 | m+1,k,B,C,h,y=>by
  unfold bd at h
  cases e:ff (aq S) B k with
  |none=>grind
  | some D=>
   rw[e]at h;refine B3 h ?_;have t:∀i r j,∃c,cm (aq S) B (S.star (bP (aq S) B k k)) k i r j=some (r++[c]):=λi r j=>by
    unfold cm;split
    ·exact⟨_,rfl⟩
    ·exact⟨_,rfl⟩
   have w:∀i n d (r:List K),∃b,bd (cm (aq S) B (S.star (bP (aq S) B k k)) k i) n d r=some b/\b.length=r.length+n:=λi n=>by
    induction n with
    |zero=>exact λd r=>⟨r,rfl,rfl⟩
    |succ n s=>
     intro d r;obtain⟨c,t⟩:=t i r d;obtain⟨b,g,l⟩:=s (d+1) (r++[c]);exact⟨b,by unfold bd;rw[t];exact g,by rw[l];simp;omega⟩
   have o:∀n f (E:List (List K)),(∀x∈E,x.length=B.length)->∃a,bd (iF (aq S) B (S.star (bP (aq S) B k k)) k) n f E=some a/\a.length=E.length+n/\∀x∈a,x.length=B.length:=λn=>by
    induction n with
    |zero=>exact λf E p=>⟨E,rfl,rfl,p⟩
    | succ n s=>
     intro f E p;obtain⟨b,g,l⟩:=w f B.length 0 [];obtain⟨a,u,v,z⟩:=s (f+1) (E++[b]) (λx q=>by
      rcases mem_append.1 q with h|h
      ·exact p x h
      ·rw[mem_singleton.1 h,l];simp)
     exact⟨a,by unfold bd iF;rw[g];exact u,by rw[v];simp;omega,z⟩
   obtain⟨a,g,l,u⟩:=o B.length 0 [] (λx q=>by cases q);have v:ff (aq S) B k=some a:=g
   grind
theorem Q9{A:List (List K)}(a:∀i,i<A.length->(A.getD i []).length=A.length):∃B,jJ (aq S) A=some B/\∀i j,i<A.length->j<A.length->bP (aq S) B i j=if i=j then S.add S.one (elim S (bP (aq S) A) A.length i j)else elim S (bP (aq S) A) A.length i j:=by
 obtain⟨C,b,e,d⟩:=HY (S:=S) (bP (aq S) A) A.length 0 A (Nat.zero_add _) (λi j _ _=>rfl);have c:=B3 b a;obtain⟨B,g,f⟩:=HR (S:=S) A.length 0 C (by omega) c
 simp_all[jJ]
end
variable{p:List Int}
section
variable {K:Type} {S:ba K}
theorem Q6{v:List K}{B:List (List K)}:∃l,fK (aq S) v (some B)=some l/\l.length=v.length/\∀p,p<v.length->vec S l p=S.cV (λq=>S.mul (vec S v q) (bP (aq S) B q p)) v.length:=by
 obtain⟨l,m,r,i⟩:=mg (S:=S) (f:=λl q=>bd (fC (aq S) v B q) v.length 0 l) (n:=v.length) (c:=λq p=>S.mul (vec S v q) (bP (aq S) B q p)) v.length 0 (bu (aq S) v.length) (λl q _ _ a=>by
  obtain⟨b,h,w,o⟩:=mg (S:=S) (f:=fC (aq S) v B q) (n:=v.length) (c:=λk p=>if k=p then S.mul (vec S v q) (bP (aq S) B q k)else S.zero) v.length 0 l (λl k _ z a=>by
   unfold fC;by_cases c:((aq S).wY (v.getD q (aq S).zero)||(aq S).wY (bP (aq S) B q k))=true
   ·rw[if_pos c];refine⟨l,rfl,a,λp _=>?_⟩;have u:S.mul (vec S v q) (bP (aq S) B q k)=S.zero:=by
     rw[Bool.or_eq_true,tR,tR]at c;rcases c with c|c
     ·have c:vec S v q=S.zero:=c;rw[c,S.zero_mul]
     ·have c:bP (aq S) B q k=S.zero:=c;rw[c,mul_zero]
    rw[u];split<;>rw[add_zero]
   ·rw[if_neg c];obtain⟨b,x,s,y⟩:=BJ (S:=S) (l:=l) (t:=k) (vec S v q) (bP (aq S) B q k) (by omega);exact⟨b,x,by rw[s,a],λp _=>y p⟩) a
  refine⟨b,h,w,λp d=>?_⟩;rw[o p d];congr 1;rw[aN (g:=λj=>if p<=j/\j<p+1 then S.mul (vec S v q) (bP (aq S) B q j)else S.zero) λj _=>by
   rw[Nat.zero_add];by_cases e:j=p
   ·rw[if_pos e,if_pos (by omega)]
   ·rw[if_neg e,if_neg (by omega)]]
  rw[wc (λj=>S.mul (vec S v q) (bP (aq S) B q j)) (by omega:p+1<=v.length)];exact S.zero_add _) length_replicate
 refine⟨l,m,r,λp d=>?_⟩;rw[i p d];have:vec S (bu (aq S) v.length) p=S.zero:=qx _ _;rw[this,S.zero_add]
 grind
theorem VE(M:fT K)(v:List K)(i:v.length=M.bH.length):oz (aq S) M v=some (dot S (vec S v) (eG S M).fin v.length):=by
 obtain⟨l,b,j,d⟩:=mg (S:=S) (f:=jH (aq S) M v) (n:=1) (c:=λq p=>S.mul (vec S v q) ((eG S M).fin q)) v.length 0 [S.zero] (λl q _ _ e=>by
  unfold jH;show ∃a,(match (M.bH.getD q dG).fin with|none=>some l|some f=>gj (aq S) l 0 (v.getD q (aq S).zero) f)=some a/\a.length=1/\∀p,p<1->vec S a p=S.add (vec S l p) (S.mul (vec S v q) ((M.bH.getD q dG).fin.getD S.zero))
  cases (M.bH.getD q dG).fin with
  |none=>exact⟨l,rfl,e,λp _=>by show _=S.add _ (S.mul _ S.zero);rw[mul_zero,add_zero]⟩
  |some f=>
   obtain⟨a,g,k,h⟩:=BJ (S:=S) (l:=l) (t:=0) (vec S v q) f (by omega);refine⟨a,g,by omega,λp m=>?_⟩;rw[h p,if_pos (by omega)];rfl) rfl
 unfold oz;have b:bd (jH (aq S) M v) v.length 0 [(aq S).zero]=some l:=b;rw[b];show some (vec S l 0)=_;rw[d 0 (by omega)];show some (S.add S.zero _)=_;rw[S.zero_add]
 simp_all[dot]
noncomputable def F8(S:ba K)(M:fT K)(x y:List Int)(i j q:Nat):K:=dK.val S (eG S M) (x.drop i) (y.drop j) q
def iQ(S:ba K)(M:fT K)(x y:List Int)(i j q:Nat):K:=dK.tail S (eG S M) (dK.val S (eG S M)) (x.drop i) (y.drop j) q
theorem KJ{M:fT K}(g:kK M){r:Option (List (List K))}(f:dP (aq S) M=some r):∀v:List K,v.length=M.bH.length->∃l,fK (aq S) v r=some l/\l.length=M.bH.length/\∀x y i j,dot S (vec S v) (F8 S M x y i j) M.bH.length=dot S (vec S l) (iQ S M x y i j) M.bH.length:=by
 obtain⟨A,P,Q,R⟩:=VF (S:=S) g;unfold dP at f;rw[P]at f;dsimp only at f;have O:∀x y i j,F8 S M x y i j=Hv S (dK.Qt S (eG S M)) M.bH.length (iQ S M x y i j):=λx y i j=>dK.Mv (S:=S) (M:=eG S M) (x.drop i) (y.drop j);split at f
 ·split at f
  ·grind
  ·have T:∀i,i<A.length->(A.getD i []).length=A.length:=by
    have L:∀(m k:Nat)(E t:List (List K)),(∀x∈E,x.length=M.bH.length)->bd (gF (aq S) M) m k E=some t->∀x∈t,x.length=M.bH.length:=λm=>by
     induction m with
     |zero=>intro k E t G e;obtain rfl:=oI e;exact G
     | succ m I=>
      intro k E t G e;unfold bd at e
      cases o:gF (aq S) M E k with
      |none=>rw[o]at e;cases e
      | some F=>
       rw[o]at e;refine I (k+1) F t ?_ e;unfold gF at o
       cases C:bd (eS (aq S) (M.bH.getD k dG).arcs) (M.bH.getD k dG).arcs.length 0 (bu (aq S) M.bH.length)with
       |none=>rw[C]at o;cases o
       | some r=>
        rw[C]at o;obtain rfl:=oI o;have f:∀(m D:Nat)(l u:List K),bd (eS (aq S) (M.bH.getD k dG).arcs) m D l=some u->u.length=l.length:=λm=>by
         induction m with
         |zero=>intro D l u e;obtain rfl:=oI e;rfl
         | succ m I=>
          intro D l u e;unfold bd at e
          cases s:eS (aq S) (M.bH.getD k dG).arcs l D with
          |none=>rw[s]at e;cases e
          |some l2=>
           rw[s]at e;rw[I _ _ _ e];unfold eS at s;split at s
           ·obtain rfl:=oI s;rfl
           ·have s:some (l.set _ _)=some l2:=s;obtain rfl:=oI s;exact length_set
        intro x H;rcases mem_append.1 H with h|h
        ·exact G x h
        ·rw[mem_singleton.1 h,f _ _ _ _ C];exact length_replicate
    intro i z;rw[gD,gE z,getD_some,Q];exact L _ _ _ _ (λx H=>by cases H) P _ (getElem_mem z)
   obtain⟨B,W,h5⟩:=Q9 (S:=S) T;rw[W]at f;obtain rfl:=oI f;intro v N;obtain⟨l,o,C,s⟩:=Q6 (S:=S) (v:=v) (B:=B);refine⟨l,o,by omega,λx y i j=>?_⟩;rw[O];have U:∀q,q<M.bH.length->Hv S (dK.Qt S (eG S M)) M.bH.length (iQ S M x y i j) q=S.cV (λp=>S.mul (bP (aq S) B q p) (iQ S M x y i j p)) M.bH.length:=λq w=>by
    have Z:=Qx (S:=S) (a:=dK.Qt S (eG S M)) (b:=bP (aq S) A) (n:=M.bH.length) (c:=iQ S M x y i j) (d:=iQ S M x y i j) (λi j z Y=>by rw[R i j z Y,H7]) (λ_ _=>rfl) q w;rw[Z];have X:∀p,p<M.bH.length->S.mul (bP (aq S) B q p) (iQ S M x y i j p)=S.add (if q<=p/\p<q+1 then iQ S M x y i j p else S.zero) (S.mul (elim S (bP (aq S) A) M.bH.length q p) (iQ S M x y i j p)):=λp hp=>by
     rw[h5 q p (by omega) (by omega),Q];by_cases e:q=p
     ·rw[if_pos e,if_pos (by omega),add_mul,S.one_mul]
     ·rw[if_neg e,if_neg (by omega),S.zero_add]
    rw[aN X,ja,wc (iQ S M x y i j) (by omega:q+1<=M.bH.length)];show S.add (iQ S M x y i j q) _=S.add (S.add S.zero (iQ S M x y i j (q+0))) _;rw[S.zero_add];rfl
   unfold dot;rw[aN λq w=>by rw[U q w]];rw[aN (g:=λq=>S.cV (λp=>S.mul (S.mul (vec S v q) (bP (aq S) B q p)) (iQ S M x y i j p)) M.bH.length) λq _=>by
    rw[<-yg];exact aN λp _=>(S.mul_assoc _ _ _).symm]
   rw[yh]
   grind[aN,uC]
 ·next J=>
  obtain rfl:=oI f;intro v N;refine⟨v,rfl,N,λx y i j=>?_⟩;unfold dot;refine aN λq w=>?_;congr 1;rw[O,Dm];rw[aN (g:=λ_=>S.zero) λl _=>by
   rw[H7];have:yz S M q l=S.zero:=by
    unfold yz;rw[gx (g:=λ_=>S.zero) λa V=>?_,oj];rw[if_neg];rintro⟨c1,c2,_⟩;refine J ?_;unfold ox;refine List.any_eq_true.2 ⟨M.bH.getD q dG,?_,List.any_eq_true.2 ⟨a,V,by grind⟩⟩;rcases sV (M:=M) q with e|e
    ·grind
    ·exact e
   rw[this,S.zero_mul]]
  rw[gb,add_zero]
theorem BT{x:List Int}(c:∀s∈x,s≠0)(i:Nat)(s:Int)(b:Nat)(d:b<=1)(g:i+b<=x.length)(a:s=bK x i b):gX s (x.drop i)=some (x.drop (i+b)):=by
 unfold bK at a;by_cases e:b=1
 ·subst e;rw[if_pos rfl]at a;have f:x.drop i=x.getD i 0::x.drop (i+1):=by
   rw[gD,gE (by omega)];exact drop_eq_getElem_cons (by omega)
  have h:s≠0:=by
   rw[a,gD,gE (by omega)];exact c _ (getElem_mem _)
  simp_all[gX]
 ·rw[if_neg e]at a;obtain rfl:b=0:=by omega
  simp_all[gX]
theorem tQ{x:List Int}(f:∀s∈x,s≠0){i:Nat}(g:i<=x.length){s:Int}(h:gX s (x.drop i)=some p):∃b,b<=1/\i+b<=x.length/\s=bK x i b/\p=x.drop (i+b)/\(b=0↔s=0):=by
 unfold gX at h;split at h
 ·next e=>
  obtain rfl:=oI h;exact⟨0,by omega,by omega,by simp_all[bK],rfl,⟨λ_=>e,λ_=>rfl⟩⟩
 ·next e=>
  by_cases a:i<x.length
  ·have d:x.drop i=x.getD i 0::x.drop (i+1):=by
    rw[gD,gE a];exact drop_eq_getElem_cons a
   rw[d]at h;dsimp only at h;split at h
   ·next c=>
    obtain rfl:=oI h;exact⟨1,by omega,by omega,by unfold bK;rw[if_pos rfl];exact c.symm,rfl,⟨λh=>by omega,λh=>absurd h e⟩⟩
   ·cases h
  grind
theorem aaI{b c:Nat}{P:Prop}(a:b<=1)(f:c<=1)(d:b=0↔P)(e:c=0↔P):b=c:=by grind
noncomputable def jT(S:ba K)(M:fT K)(x y:List Int)(i j:Nat)(a:jg K)(k:Nat):K:=
 if x.length<i+k%2\/y.length<j+k/2 then S.zero else if a.i=bK x i (k%2)/\a.o=bK y j (k/2)then S.mul a.w (F8 S M x y (i+k%2) (j+k/2) a.t)else S.zero
theorem go_eq{M:fT K}{x:List Int}(m:∀s∈x,s≠0)(t:∀s∈p,s≠0){i j:Nat}(r:i<=x.length)(u:j<=p.length)(a:jg K):dK.go S (dK.val S (eG S M)) (x.drop i) (p.drop j) ⟨a.i,a.o,a.w,a.t⟩=S.cV (λk=>jT S M x p i j a (1+k)) 3:=by
 have F:∀{x:List Int}{i b:Nat},(∀s∈x,s≠0)->b<=1->i+b<=x.length->(bK x i b=0↔b=0):=λ{x i b} m L r=>by
  unfold bK
  grind
 have J:∀k,k=1\/k=2\/k=3->jT S M x p i j a k≠S.zero->i+k%2<=x.length/\j+k/2<=p.length/\a.i=bK x i (k%2)/\a.o=bK p j (k/2):=λk _ h=>by simp_all[jT]
 show(if a.i=0/\a.o=0 then S.zero else match gX a.i (x.drop i),gX a.o (p.drop j)with|some l,some g=>S.mul a.w (dK.val S (eG S M) l g a.t)|_,_=>S.zero)=S.add (S.add (S.add S.zero (jT S M x p i j a 1)) (jT S M x p i j a 2)) (jT S M x p i j a 3);rw[S.zero_add];have d:∀k,k=1\/k=2\/k=3->¬((k%2=0↔a.i=0)/\(k/2=0↔a.o=0))->jT S M x p i j a k=S.zero:=λk C N=>Classical.byContradiction λc=>by grind
 have e:∀k,k=1\/k=2\/k=3->(k%2=0↔a.i=0)->(k/2=0↔a.o=0)->jT S M x p i j a k=(match gX a.i (x.drop i),gX a.o (p.drop j)with|some l,some g=>S.mul a.w (dK.val S (eG S M) l g a.t)|_,_=>S.zero):=λk C O P=>by
  unfold jT;split
  ·next c=>
   cases n:gX a.i (x.drop i)with
   |none=>rfl
   | some l=>
    cases o:gX a.o (p.drop j)with
    |none=>rfl
    |some g=>
     obtain⟨b,G,w,H,E,y⟩:=tQ m r n;obtain⟨B,D,z,v,A,I⟩:=tQ t u o;omega
  ·next c=>
   split
   ·next f=>
    rw[BT m i _ _ (by omega) (by omega) f.1,BT t j _ _ (by omega) (by omega) f.2];rfl
   ·next f=>
    cases n:gX a.i (x.drop i)with
    |none=>rfl
    | some l=>
     cases o:gX a.o (p.drop j)with
     |none=>rfl
     |some g=>
      obtain⟨b,G,w,H,E,y⟩:=tQ m r n;obtain⟨B,D,z,v,A,I⟩:=tQ t u o
      grind
 by_cases q:a.i=0
 ·by_cases f:a.o=0
  ·rw[if_pos ⟨q,f⟩,d 1 (by omega) (by omega),d 2 (by omega) (by omega),d 3 (by omega) (by omega),S.zero_add,S.zero_add]
  ·rw[if_neg λh=>f h.2,d 1 (by omega) (by omega),e 2 (by omega) (by omega) (by omega),d 3 (by omega) (by omega),S.zero_add,add_zero]
 ·by_cases f:a.o=0
  ·rw[if_neg λh=>q h.1,e 1 (by omega) (by omega) (by omega),d 2 (by omega) (by omega),d 3 (by omega) (by omega),add_zero,add_zero]
  ·rw[if_neg λh=>q h.1,d 1 (by omega) (by omega),d 2 (by omega) (by omega),e 3 (by omega) (by omega) (by omega),S.zero_add,S.zero_add]
end
variable{i:Nat}{m:Nat}{n:Nat}{j:Nat}
section
variable {K:Type} {S:ba K}
structure ow(M:fT K)(x y:List Int)(T:List (List (List K))):Prop where
 len:T.length=x.length+1
 row:∀i,i<=x.length->(T.getD i []).length=y.length+1
 cell:∀i j,i<=x.length->j<=y.length->(dE T i j).length=M.bH.length
theorem vC{l:List A}(a:i<l.length)(v d:A)(j:Nat):(l.set i v).getD j d=if j=i then v else l.getD j d:=by grind
section
variable {M:fT K} {x y:List Int} {T:List (List (List K))}
theorem ow.yN(s:ow M x y T){i j:Nat}(d:i<=x.length)(f:j<=y.length)(v:List K)(a b:Nat):dE (fg T i j v) a b=if a=i/\b=j then v else dE T a b:=by
 unfold dE fg;rw[vC (by rw[s.len];omega)];by_cases e:a=i
 ·subst e;rw[if_pos rfl,vC (by rw[s.row a d];omega)];by_cases c:b=j
  ·rw[if_pos c,if_pos ⟨rfl,c⟩]
  ·rw[if_neg c,if_neg λh=>c h.2]
 grind
theorem ow.set(s:ow M x y T){i j:Nat}(d:i<=x.length)(f:j<=y.length){v:List K}(g:v.length=M.bH.length):ow M x y (fg T i j v):=by
 refine⟨by unfold fg;rw[length_set];exact s.len,λa c=>?_,λa b c e=>?_⟩
 ·unfold fg;rw[vC (by rw[s.len];omega)];split
  ·rw[length_set];exact s.row i d
  ·exact s.row a c
 ·rw[s.yN d f];split
  ·omega
  ·exact s.cell a b c e
noncomputable def yv(S:ba K)(M:fT K)(x y:List Int)(T:List (List (List K)))(a b:Nat):K:=dot S (vec S (dE T a b)) (F8 S M x y a b) M.bH.length
noncomputable def iB(S:ba K)(M:fT K)(x y:List Int)(T:List (List (List K)))(i j:Nat):K:=S.cV (λa=>S.cV (λb=>if i<a\/(a=i/\j<=b)then yv S M x y T a b else S.zero) (y.length+1)) (x.length+1)
theorem qY{p q:Nat}(i:p<m)(f:q<n)(c:K):S.cV (λa=>S.cV (λb=>if a=p/\b=q then c else S.zero) n) m=c:=by
 have d:∀a,S.cV (λb=>if a=p/\b=q then c else S.zero) n=if p<=a/\a<p+1 then c else S.zero:=λa=>by
  by_cases e:a=p
  ·rw[if_pos (by omega),aN (g:=λb=>if q<=b/\b<q+1 then c else S.zero) λb _=>by grind];rw[wc (λ_=>c) (by omega:q+1<=n)];exact S.zero_add c
  ·rw[if_neg (by omega),aN (g:=λ_=>S.zero) λb _=>if_neg λh=>e h.1,gb]
 rw[aN λa _=>d a,wc (λ_=>c) (by omega:p+1<=m)];exact S.zero_add c
theorem B4(f g:Nat->Nat->K)(m n:Nat):S.cV (λa=>S.cV (λb=>S.add (f a b) (g a b)) n) m=S.add (S.cV (λa=>S.cV (f a) n) m) (S.cV (λa=>S.cV (g a) n) m):=by simp[ja]
theorem H3(c:i<=x.length)(d:j<=y.length):iB S M x y T i j=S.add (yv S M x y T i j) (iB S M x y T i (j+1)):=by
 unfold iB;rw[<-qY (S:=S) (p:=i) (q:=j) (m:=x.length+1) (n:=y.length+1) (by omega) (by omega) (yv S M x y T i j),<-B4];refine aN λa _=>aN λb _=>?_;by_cases e:a=i/\b=j
 ·simp_all[if_neg,add_zero]
 ·rw[if_neg e,S.zero_add]
  grind
theorem NU{d:List (List (List K))}{p q:Nat}(r:p<=x.length)(l:q<=y.length)(o:i<p\/(p=i/\j<=q)){c:K}(h:∀a b,a<=x.length->b<=y.length->(i<a\/(a=i/\j<=b))->yv S M x y d a b=S.add (yv S M x y T a b) (if a=p/\b=q then c else S.zero)):iB S M x y d i j=S.add (iB S M x y T i j) c:=by
 unfold iB;have e:=qY (S:=S) (p:=p) (q:=q) (m:=x.length+1) (n:=y.length+1) (by omega) (by omega) c
 conv=>rhs;rw[<-e]
 rw[<-B4];refine aN λa k=>aN λb f=>?_;by_cases g:i<a\/(a=i/\j<=b)
 ·grind
 ·rw[if_neg g,if_neg g,if_neg (by omega),add_zero]
theorem H2{c:List (List (List K))}(h:∀a b,a<=x.length->b<=y.length->(i<a\/(a=i/\j<=b))->yv S M x y c a b=yv S M x y T a b):iB S M x y c i j=iB S M x y T i j:=by
 unfold iB;refine aN λa e=>aN λb d=>?_
 grind
theorem KG(i:Nat):iB S M x y T i (y.length+1)=iB S M x y T (i+1) 0:=by
 unfold iB;refine aN λa d=>aN λb c=>?_
 grind
theorem NT:iB S M x y T (x.length+1) j=S.zero:=by
 unfold iB;rw[aN (g:=λ_=>S.zero) λa c=>?_,gb];rw[aN (g:=λ_=>S.zero) λb _=>if_neg (by omega),gb]
theorem NQ(u v w:Nat->K)(n:Nat):dot S (λp=>S.add (u p) (v p)) w n=S.add (dot S u w n) (dot S v w n):=by grind[ja,aN,add_mul,dot]
theorem HX{u v w:Nat->K}(h:∀p,p<n->u p=v p):dot S u w n=dot S v w n:=aN λi a=>by grind
noncomputable def jh(S:ba K)(M:fT K)(x y:List Int)(v:List K)(i j k:Nat):K:=S.cV (λq=>S.mul (vec S v q) (gW S (λa=>jT S M x y i j a k) (bD M q))) M.bH.length
theorem KL(g:kK M)(v:List K){i j k:Nat}(r:¬(x.length<i+k%2\/y.length<j+k/2)){s:List K}(n:∀p,p<M.bH.length->vec S s p=S.cV (λq=>gW S (λa=>if gI (bK x i (k%2)) (bK y j (k/2)) p a then S.mul (vec S v q) a.w else S.zero) (bD M q)) M.bH.length):
  dot S (vec S s) (F8 S M x y (i+k%2) (j+k/2)) M.bH.length=jh S M x y v i j k:=by
 unfold jh dot;rw[aN (g:=λp=>S.cV (λq=>gW S (λa=>if gI (bK x i (k%2)) (bK y j (k/2)) p a then S.mul (vec S v q) (S.mul a.w (F8 S M x y (i+k%2) (j+k/2) a.t))else S.zero) (bD M q)) M.bH.length) λp t=>by
  rw[n p t,<-uC];refine aN λq _=>?_;rw[S.mul_comm,<-yf];refine gx λa _=>?_;by_cases c:gI (bK x i (k%2)) (bK y j (k/2)) p a
  ·rw[if_pos c,if_pos c,c.2.2,S.mul_comm,S.mul_assoc]
  ·rw[if_neg c,if_neg c,mul_zero]]
 rw[yh];refine aN λq u=>?_;rw[<-yf];have e:∀l:List (jg K),(∀a∈l,a.t<M.bH.length)->S.cV (λp=>gW S (λa=>if gI (bK x i (k%2)) (bK y j (k/2)) p a then S.mul (vec S v q) (S.mul a.w (F8 S M x y (i+k%2) (j+k/2) a.t))else S.zero) l) M.bH.length=gW S (λa=>S.mul (vec S v q) (jT S M x y i j a k)) l:=λl=>by
  induction l with
  |nil=>intro _;exact gb _
  | cons a l o=>
   intro f;have d:=f a (mem_cons_self ..);show S.cV (λp=>S.add (if gI (bK x i (k%2)) (bK y j (k/2)) p a then _ else S.zero) (gW S _ l)) _=S.add _ _;rw[ja,o λb m=>f b (List.mem_cons_of_mem _ m)];congr 1;unfold jT;dsimp only;rw[if_neg r];by_cases c:a.i=bK x i (k%2)/\a.o=bK y j (k/2)
   ·rw[if_pos c,aN (g:=λp=>if a.t<=p/\p<a.t+1 then S.mul (vec S v q) (S.mul a.w (F8 S M x y (i+k%2) (j+k/2) a.t))else S.zero) λp _=>by
     by_cases e:a.t=p
     ·rw[if_pos ⟨c.1,c.2,e⟩,if_pos (by omega)]
     ·rw[if_neg λh=>e h.2.2,if_neg (by omega)]]
    rw[wc (λ_=>S.mul (vec S v q) (S.mul a.w (F8 S M x y (i+k%2) (j+k/2) a.t))) (by omega:a.t+1<=M.bH.length)];exact S.zero_add _
   ·rw[if_neg c,aN (g:=λ_=>S.zero) λp _=>if_neg λh=>c ⟨h.1,h.2.1⟩,gb,mul_zero]
 refine e _ λa d=>?_;unfold bD at d;rcases sV (M:=M) q with e|e
 ·rw[e]at d;cases d
 ·exact g _ e a d
theorem BZ(g:kK M)(s:ow M x y T){v:List K}(t:v.length=M.bH.length){i j:Nat}(A:i<=x.length)(C:j<=y.length){k:Nat}(B:k=1\/k=2\/k=3):
  ∃h,oB (aq S) M x y v i j T k=some h/\ow M x y h/\dE h i j=dE T i j/\iB S M x y h i (j+1)=S.add (iB S M x y T i (j+1)) (jh S M x y v i j k):=by
 unfold oB;by_cases c:x.length<i+k%2\/y.length<j+k/2
 ·simp_all[gb,oj,mul_zero,add_zero,jh,jT]
 ·rw[if_neg c];obtain⟨l,n,u,m⟩:=Ra (S:=S) g v (bK x i (k%2)) (bK y j (k/2));rw[n];dsimp only;have f:i+k%2<=x.length:=by omega
  have d:j+k/2<=y.length:=by omega
  obtain⟨r,o,z,D⟩:=VJ (S:=S) (dE T (i+k%2) (j+k/2)) l;rw[o];dsimp only;have p:=s.cell _ _ f d;refine⟨_,rfl,s.set f d (by omega),?_,?_⟩
  ·rw[s.yN f d,if_neg (by omega)]
  ·refine NU f d (by omega) λa b w q _=>?_;unfold yv;rw[s.yN f d];by_cases e:a=i+k%2/\b=j+k/2
   ·rw[if_pos e,if_pos e,e.1,e.2,<-KL g v c m,<-NQ]
    grind[HX]
   ·rw[if_neg e,if_neg e,add_zero]
theorem VG(g:kK M)(A:∀s∈x,s≠0)(N:∀s∈y,s≠0){B:Option (List (List K))}(t:dP (aq S) M=some B)(s:ow M x y T){i j:Nat}(d:i<=x.length)(e:j<=y.length):
  ∃l,mL (aq S) M B x y i T j=some l/\ow M x y l/\iB S M x y T i j=S.add (if i=x.length/\j=y.length then dot S (vec S (dE l i j)) (eG S M).fin M.bH.length else S.zero) (iB S M x y l i (j+1)):=by
 obtain⟨v,U,m,u⟩:=KJ g t (dE T i j) (s.cell i j d e);have F:=s.set d e m;obtain⟨Q,Y,r,J,G⟩:=BZ (S:=S) g F m d e (k:=1) (.inl rfl);obtain⟨V,W,w,o,D⟩:=BZ (S:=S) g r m d e (k:=2) (.inr (.inl rfl));obtain⟨n,P,C,p,L⟩:=BZ (S:=S) g w m d e (k:=3) (.inr (.inr rfl));refine⟨n,?_,C,?_⟩
 ·simp_all[mL,bd]
 ·rw[H3 d e];have H:iB S M x y (fg T i j v) i (j+1)=iB S M x y T i (j+1):=H2 λa b _ _ h=>by
   unfold yv;rw[s.yN d e,if_neg (by omega)]
  have z:dE n i j=v:=by rw[p,o,J,s.yN d e,if_pos ⟨rfl,rfl⟩]
  rw[L,D,G,H,z];have I:yv S M x y T i j=S.add (if i=x.length/\j=y.length then dot S (vec S v) (eG S M).fin M.bH.length else S.zero) (S.add (S.add (jh S M x y v i j 1) (jh S M x y v i j 2)) (jh S M x y v i j 3)):=by
   unfold yv;rw[u x y i j];have E:∀q,iQ S M x y i j q=S.add (if i=x.length/\j=y.length then(eG S M).fin q else S.zero) (S.add (S.add (gW S (λa=>jT S M x y i j a 1) (bD M q)) (gW S (λa=>jT S M x y i j a 2) (bD M q))) (gW S (λa=>jT S M x y i j a 3) (bD M q))):=λq=>by
    show S.add (if x.drop i=[]/\y.drop j=[]then(eG S M).fin q else S.zero) (gW S (dK.go S (dK.val S (eG S M)) (x.drop i) (y.drop j)) ((bD M q).map λa=>⟨a.i,a.o,a.w,a.t⟩))=_;rw[Ds,gx λa _=>go_eq A N d e a];congr 1
    ·by_cases c:i=x.length/\j=y.length
     ·grind
     ·rw[if_neg c,if_neg]
      grind[List.drop_eq_nil_iff]
    ·show gW S (λa=>S.add (S.add (S.add S.zero (jT S M x y i j a 1)) (jT S M x y i j a 2)) (jT S M x y i j a 3)) _=_;rw[gx (g:=λa=>S.add (S.add (jT S M x y i j a 1) (jT S M x y i j a 2)) (jT S M x y i j a 3)) λa _=>by rw[S.zero_add],Dr,Dr]
   unfold dot jh;rw[aN λq _=>by rw[E q,S.mul_add,S.mul_add,S.mul_add],ja,ja,ja];congr 1;by_cases c:i=x.length/\j=y.length
   ·grind
   ·rw[if_neg c,aN (g:=λ_=>S.zero) λq _=>by rw[if_neg c,mul_zero],gb]
  rw[I];generalize iB S M x y T i (j+1)=R;generalize jh S M x y v i j 1=X;generalize jh S M x y v i j 2=Z;generalize jh S M x y v i j 3=O;generalize (if i=x.length/\j=y.length then dot S (vec S v) (eG S M).fin M.bH.length else S.zero)=f;rw[S.add_assoc f];congr 1;rw[S.add_comm,<-S.add_assoc,<-S.add_assoc]
theorem MO(g:kK M)(d:∀s∈x,s≠0)(f:∀s∈y,s≠0){B:Option (List (List K))}(b:dP (aq S) M=some B){i:Nat}(e:i<=x.length):∀(m j:Nat)(T:List (List (List K))),j+m=y.length+1->ow M x y T->
  ∃a,bd (mL (aq S) M B x y i) m j T=some a/\ow M x y a/\(0<m->iB S M x y T i j=S.add (if i=x.length then dot S (vec S (dE a x.length y.length)) (eG S M).fin M.bH.length else S.zero) (iB S M x y a (i+1) 0))
 |0,j,T,k,s=>⟨T,rfl,s,λh=>absurd h (lt_irrefl 0)⟩
 | m+1,j,T,k,s=>by
  obtain⟨l,t,p,n⟩:=VG g d f b s e (show j<=y.length by omega);obtain⟨o,q,r,u⟩:=MO g d f b e m (j+1) l (by omega) p;refine⟨o,by grind[bd],r,λ_=>?_⟩;rw[n];by_cases c:m=0
  ·subst c;obtain rfl:=oI q
   simp_all[KG]
  ·rw[if_neg (by omega),S.zero_add]
   grind
theorem H4(g:kK M)(d:∀s∈x,s≠0)(e:∀s∈y,s≠0){B:Option (List (List K))}(b:dP (aq S) M=some B):∀(m i:Nat)(T:List (List (List K))),i+m=x.length+1->ow M x y T->
  ∃a,bd (qV (aq S) M B x y) m i T=some a/\ow M x y a/\(0<m->iB S M x y T i 0=dot S (vec S (dE a x.length y.length)) (eG S M).fin M.bH.length)
 |0,i,T,f,s=>⟨T,rfl,s,λh=>absurd h (lt_irrefl 0)⟩
 | m+1,i,T,f,s=>by
  obtain⟨j,q,n,k⟩:=MO g d e b (show i<=x.length by omega) (y.length+1) 0 T (by omega) s;obtain⟨l,o,p,r⟩:=H4 g d e b m (i+1) j (by omega) n;refine⟨l,by grind[bd,qV],p,λ_=>?_⟩;rw[k (by omega)];by_cases c:m=0
  ·subst c;obtain rfl:=oI o
   simp_all[NT,add_zero]
  ·rw[if_neg (by omega),S.zero_add]
   grind
end
theorem KP{M:fT K}{x y:List Int}(g:kK M)(C:M.start<M.bH.length)(t:∀s∈x,s≠0)(A:∀s∈y,s≠0){w:K}(h:eA (aq S) M x y=some w):w=S.mul M.lead (dK.val S (eG S M) x y M.start):=by
 unfold eA at h
 cases k:dP (aq S) M with
 |none=>grind
 | some B=>
  rw[k]at h;dsimp only at h;have m:(bu (aq S) M.bH.length).length=M.bH.length:=length_replicate;have f:ow M x y (List.replicate (x.length+1) (List.replicate (y.length+1) (bu (aq S) M.bH.length))):=by
   have e:∀i,i<=x.length->(List.replicate (x.length+1) (List.replicate (y.length+1) (bu (aq S) M.bH.length))).getD i []=List.replicate (y.length+1) (bu (aq S) M.bH.length):=λi d=>by
    rw[gD,List.getElem?_replicate,if_pos (by omega)];rfl
   refine⟨length_replicate,λi d=>by rw[e i d];exact length_replicate,λi j d D=>?_⟩;unfold dE;rw[e i d,gD,List.getElem?_replicate,if_pos (by omega)];exact m
  have z:ow M x y (jX (aq S) M x y):=f.set (Nat.zero_le _) (Nat.zero_le _) (by rw[length_set];exact m);obtain⟨T,u,l,r⟩:=H4 g t A k (x.length+1) 0 (jX (aq S) M x y) (by omega) z;rw[u]at h;dsimp only at h;rw[VE M _ (l.cell _ _ (Nat.le_refl _) (Nat.le_refl _)),l.cell _ _ (Nat.le_refl _) (Nat.le_refl _),<-r (by omega)]at h;obtain rfl:=oI h;have o:∀a b,a<=x.length->b<=y.length->yv S M x y (jX (aq S) M x y) a b=if a=0/\b=0 then S.mul M.lead (dK.val S (eG S M) x y M.start)else S.zero:=λa b v n=>by
   unfold yv jX;rw[f.yN (Nat.zero_le _) (Nat.zero_le _)];by_cases c:a=0/\b=0
   ·rw[if_pos c,if_pos c,c.1,c.2];unfold dot;rw[aN (g:=λq=>if M.start<=q/\q<M.start+1 then S.mul M.lead (dK.val S (eG S M) x y q)else S.zero) λq _=>by
     have:=tW (S:=S) (p:=q) M.lead (show M.start<(bu (aq S) M.bH.length).length by omega);rw[this];by_cases e:q=M.start
     ·rw[if_pos e,if_pos (by omega)];rfl
     ·rw[if_neg e,if_neg (by omega)];have:vec S (bu (aq S) M.bH.length) q=S.zero:=qx _ _;rw[this,S.zero_mul]]
    rw[wc (λq=>S.mul M.lead (dK.val S (eG S M) x y q)) (by omega:M.start+1<=M.bH.length)];exact S.zero_add _
   ·rw[if_neg c,if_neg c];unfold dot;rw[aN (g:=λ_=>S.zero) λq _=>?_,gb];unfold dE;have e:(List.replicate (x.length+1) (List.replicate (y.length+1) (bu (aq S) M.bH.length))).getD a []=List.replicate (y.length+1) (bu (aq S) M.bH.length):=by
     rw[gD,List.getElem?_replicate,if_pos (by omega)];rfl
    rw[e,gD,List.getElem?_replicate,if_pos (by omega)];have:vec S (bu (aq S) M.bH.length) q=S.zero:=qx _ _;show S.mul (vec S (bu (aq S) M.bH.length) q) _=_;rw[this,S.zero_mul]
  unfold iB;rw[aN (g:=λa=>S.cV (λb=>if a=0/\b=0 then S.mul M.lead (dK.val S (eG S M) x y M.start)else S.zero) (y.length+1)) λa v=>aN λb n=>by rw[if_pos (by omega),o a b (by omega) (by omega)]];simp[qY]
end
end Go.Num
end
section
namespace Go.Proofs.YtaaichlgdgjgjaaGreatDoor
open Go Go.Ab Go.RowKit
theorem Wz:(((Tryz.prog.funcs.toList.drop 0).take 40).all λf=>fA f)=true:=by kernel_rfl
theorem WA:(((Tryz.prog.funcs.toList.drop 40).take 40).all λf=>fA f)=true:=by kernel_rfl
theorem WB:(((Tryz.prog.funcs.toList.drop 80).take 40).all λf=>fA f)=true:=by kernel_rfl
theorem WC:(((Tryz.prog.funcs.toList.drop 120).take 40).all λf=>fA f)=true:=by kernel_rfl
theorem WD:(((Tryz.prog.funcs.toList.drop 160).take 40).all λf=>fA f)=true:=by kernel_rfl
theorem WE:(((Tryz.prog.funcs.toList.drop 200).take 40).all λf=>fA f)=true:=by kernel_rfl
theorem WG:(((Tryz.prog.funcs.toList.drop 240).take 40).all λf=>fA f)=true:=by kernel_rfl
theorem OM:Tryz.prog.funcs.toList.length=259:=by kernel_rfl
theorem Si(i:Nat)(c:Func)(h:Tryz.prog.funcs.toList[i]?=some c):fA c=true:=by
 have b:∀a,((Tryz.prog.funcs.toList.drop a).take 40).all (λf=>fA f)=true->a<=i->i<a+40->fA c=true:=λa g d e=>by
  refine all_eq_true.1 g c (List.mem_of_getElem? (i:=i-a) ?_);rw[List.getElem?_take,if_pos (by omega),List.getElem?_drop,show a+(i-a)=i by omega];exact h
 have j:i<259:=by
  have:=(List.getElem?_eq_some_iff.1 h).1;rw[OM]at this;exact this
 by_cases m:i<40
 ·exact b 0 Wz (by omega) (by omega)
 by_cases d:i<80
 ·exact b 40 WA (by omega) (by omega)
 by_cases e:i<120
 ·exact b 80 WB (by omega) (by omega)
 by_cases k:i<160
 ·exact b 120 WC (by omega) (by omega)
 by_cases l:i<200
 ·exact b 160 WD (by omega) (by omega)
 by_cases n:i<240
 ·exact b 200 WE (by omega) (by omega)
 exact b 240 WG (by omega) (by omega)
theorem O8:(Tryz.prog.funcs.toList.all λf=> !(f.name == "runtime.NumGoroutine"))=true:=by kernel_rfl
theorem NG:Gp Tryz.prog:={
 names:=λ_ a h=>by
  have b:a∈Tryz.prog.funcs.toList:=by
   rw[<-Array.getElem?_toList]at h;exact List.mem_of_getElem? h
  have:=all_eq_true.1 O8 a b;simpa using this
 YM:=λf a h=>Si f a (by rw[Array.getElem?_toList];exact h) }
def Mh:Code->Code
 |.seq a _=>a
 |c=>c
def Hs:Code->Code
 |.seq _ b=>b
 |c=>c
noncomputable def EV:Code:=(Tryz.f166.body).getD .skip
theorem GJ(a:Array Value)(w:World)(h:a.size=2):CallsDIn Fence.wide 0 Tryz.prog 183 a .returning w λe c b=>(∃v,e = .returned v)/\c = .returning/\Below w.heap.size w b/\w.drawn<=b.drawn:=
 WM (n:=2) Tryz.func183 rfl rfl (by kernel_rfl) a w h
end Go.Proofs.YtaaichlgdgjgjaaGreatDoor
end
section
namespace Go.Proofs.YtaaichlgdgjgjaaGreatDoor
open Go Go.Ab Go.Num
def Vz:Nat->Bool:=λg=>Nat.beq g 1
noncomputable def prS:FuncId->Option uG:=λf=>R5 (Nat.beq f 81) (some De) (R5 (Nat.beq f 222) (some qI) (R5 (Nat.beq f 226) (some pj) (R5 (Nat.beq f 166) (some (wb Tryz.prog Vz Tryz.f166 (Mh EV) (Hs (Hs EV)) 5)) none)))
noncomputable def SS:Sx:=⟨Tryz.prog,Vz,prS⟩
theorem adz:aE Tryz.prog 22=some 1:=by kernel_rfl
abbrev lI(h:ae)(p:Addr)(K:Int->Prop):Prop:=xI .i64 (aj SS.P 3 h (.pointer (some p))) K
abbrev lS(h:ae)(p:Addr)(K:List UInt8->Prop):Prop:=xS (aj SS.P 9 h (.pointer (some p))) K
abbrev lB(h:ae)(p:Addr)(K:Bool->Prop):Prop:=xB (aj SS.P 4 h (.pointer (some p))) K
abbrev lL(t:TypeId)(h:ae)(p:Addr)(K:Option Addr->Nat->Nat->Prop):Prop:=xL (aj SS.P t h (.pointer (some p))) K
abbrev lA(t:TypeId)(h:ae)(v:Value)(K:List Value->Prop):Prop:=xA (aj SS.P t h v) K
abbrev fP(t:TypeId)(v:Value)(i:Nat)(K:Addr->Prop):Prop:=xP (aD SS.P t v i) K
abbrev iP(t:TypeId)(v i:Value)(K:Addr->Prop):Prop:=xP (aA SS.P t v i) K
variable{s:List UInt8}{t:List UInt8}{z:Int}{v:Value}{w:Value}{h:ae}{Q:VH}{b:Bool}
noncomputable def OE:FD:=cF Tryz.f191 []
theorem K3(l m:LB)(h:ae)(Q:VH)(e:FW SS 204 [(strOf l),(strOf m)] h λc d=>yB c λb=>au (!b) (Q (.tuple ⟨[(strOf l),(.bool false)]⟩) d) (xS (bO SS.P 9 (strOf l) (some (.int .i64 ((m:LB).length:Int))) none none d) λa=>Q (.tuple ⟨[(strOf a),(.bool true)]⟩) d)):FW SS 191 [(strOf l),(strOf m)] h Q:=cJ OE Tryz.func191 (ai e)
noncomputable def Sf:FD:=cF Tryz.f177 []
theorem OF(l m:LB)(h:ae)(Q:VH)(e:FW SS 191 [(strOf l),(strOf m)] h λc d=>∃b:LB,∃a:Bool,c=(.tuple ⟨[(strOf b),(.bool a)]⟩)/\Q (.tuple ⟨[(strOf b),(.bool a)]⟩) d):FW SS 177 [(strOf l),(strOf m)] h Q:=cJ Sf Tryz.func177 (ai e)
noncomputable def Li:FD:=cF Tryz.f214 []
theorem I1(l:LB)(c:Int)(h:ae)(Q:VH)(d:FW SS 226 [(strOf l),(.int .u8 c)] h λb c=>yI .i64 b λa=>Q (.int .i64 a) c):FW SS 214 [(strOf l),(.int .u8 c)] h Q:=cJ Li Tryz.func214 (ai d)
noncomputable def SN:FD:=cF Tryz.f205 []
theorem OR(l:LB)(h:ae)(Q:VH)(e:au (([47]:LB)==l) (Q (.int .i64 0) h) (xI .u8 (bL SS.P 9 (strOf [47]) (.int .i64 0)) λd=>FW SS 214 [(strOf l),(.int .u8 d)] h λb c=>yI .i64 b λa=>Q (.int .i64 a) c)):FW SS 205 [(strOf l),(strOf [47])] h Q:=cJ SN Tryz.func205 (ai e)
noncomputable def ZJ:FD:=cF Tryz.f192 []
theorem Wu(l:LB)(h:ae)(Q:VH)(f:FW SS 205 [(strOf l),(strOf [47])] h λd e=>yI .i64 d λc=>au (decide ((c:Int)>=0)) (xS (bO SS.P 9 (strOf l) none (some (.int .i64 c)) none (room e 12)) λb=>xS (bO SS.P 9 (strOf l) (some (.int .i64 (wrap .i64 (c+1)))) none none (room e 12)) λa=>Q (.tuple ⟨[(strOf b),(strOf a),(.bool true)]⟩) (room e 12)) (Q (.tuple ⟨[(strOf l),(strOf []),(.bool false)]⟩) e)):FW SS 192 [(strOf l),(strOf [47])] h Q:=cJ ZJ Tryz.func192 (ai f)
noncomputable def abz:FD:=cF Tryz.f178 []
theorem ZK(l:LB)(h:ae)(Q:VH)(f:FW SS 192 [(strOf l),(strOf [47])] h λd e=>∃c:LB,∃b:LB,∃a:Bool,d=(.tuple ⟨[(strOf c),(strOf b),(.bool a)]⟩)/\Q (.tuple ⟨[(strOf c),(strOf b),(.bool a)]⟩) e):FW SS 178 [(strOf l),(strOf [47])] h Q:=cJ abz Tryz.func178 (ai f)
noncomputable def jy:FD:=cF Tryz.f116 [([1,0,1,0,0],[0,1,5])]
abbrev iZ(l:LB)(c:Int)(i:Nat):LV:=[(strOf l),(.int .u8 c),(iA i)]
theorem He(l:LB)(c:Int)(h:ae)(Q:VH)(a:LL SS jy [1,0,1,0,0] (iZ l c 0) h (KK SS jy [1,0,1,0] [] (EE SS jy Q))):FW SS 116 [(strOf l),(.int .u8 c)] h Q:=cJ jy Tryz.func116 (ai a)
theorem tx(l:LB)(c:Int)  (d:Nat->Nat->ae->Prop) (Q:VH) (step:∀(b:Nat)(i:Nat)(f:Nat->Value)(h:ae),d b i h->au (decide (((i:Int):Int)<((l:LB).length:Int))) (xI .u8 (bL SS.P 9 (strOf l) (iA i)) λa=>au (((a:Int)==c)) (Q (iA i) h) (aJ (fj (iZ l c) d) b [(strOf l),(.int .u8 c),(.int .i64 (wrap .i64 ((i:Int)+1)))] h)) (Q (.int .i64 (-1)) h)) (b:Nat) {i:Nat} {h:ae} (e:d b i h):LL SS jy [1,0,1,0,0] (iZ l c i) h (KK SS jy [1,0,1,0] [] (EE SS jy Q)):=
 db (iZ l c) d (λb i f h e=>ai (step b i f h e)) b e
noncomputable def JI:FD:=cF Tryz.f117 []
theorem Hh(l:LB)(h:ae)(Q:VH)(d:au (decide ((((l:LB).length:Int):Int)<=400)) (FW SS 136 [(strOf l)] h λb c=>yB b λa=>Q (.bool a) c) (Q (.bool false) h)):FW SS 117 [(strOf l)] h Q:=cJ JI Tryz.func117 (ai d)
noncomputable def av:FD:=cF Tryz.f94 []
abbrev Av(l:LB)(cc:Code)(h:ae)(Q:VH):Prop:=au (decide ((((l:LB).length:Int):Int)>0)) (xI .u8 (bL SS.P 9 (strOf l) (.int .i64 0)) λc=>au (((c:Int)==45)) (xS (bO SS.P 9 (strOf l) (some (.int .i64 1)) none none h) λe=>FW SS 116 [(strOf e),(.int .u8 47)] h λr g=>yI .i64 r λd=>au (decide ((d:Int)>=0)) (xS (bO SS.P 9 (strOf e) (some (.int .i64 (wrap .i64 (d+1)))) none none g) λp=>xS (bO SS.P 9 (strOf e) none (some (.int .i64 d)) none g) λo=>wpS SS av.nm av.ms [1,1,1,1,1,1] cc (uN [(strOf l),undef,(.bool false),(strOf []),(strOf []),(.bool false),(strOf o),(strOf p),(.bool (((c:Int)==45))),(.int .i64 d),undef,undef,(strOf l),(strOf l),(.int .i64 ((l:LB).length:Int)),(.bool (decide ((((l:LB).length:Int):Int)>0))),(.bool true),(strOf l),(.int .u8 c),(.bool (((c:Int)==45))),(.bool (((c:Int)==45))),(.bool (((c:Int)==45))),(strOf l),(strOf e),(strOf e),(.int .i64 d),(.int .i64 d),(.bool (decide ((d:Int)>=0))),(strOf e),(.int .i64 d),(.int .i64 (wrap .i64 (d+1))),(strOf p),(strOf e),(.int .i64 d),(strOf o)] 46) g (EE SS av Q)) (wpS SS av.nm av.ms [1,1,1,1,1,1] cc (uN [(strOf l),undef,(.bool false),(strOf []),(strOf []),(.bool false),(strOf e),(strOf [49]),(.bool (((c:Int)==45))),(.int .i64 d),undef,undef,(strOf l),(strOf l),(.int .i64 ((l:LB).length:Int)),(.bool (decide ((((l:LB).length:Int):Int)>0))),(.bool true),(strOf l),(.int .u8 c),(.bool (((c:Int)==45))),(.bool (((c:Int)==45))),(.bool (((c:Int)==45))),(strOf l),(strOf e),(strOf e),(.int .i64 d),(.int .i64 d),(.bool (decide ((d:Int)>=0)))] 53) g (EE SS av Q))) (FW SS 116 [(strOf l),(.int .u8 47)] h λs i=>yI .i64 s λb=>au (decide ((b:Int)>=0)) (xS (bO SS.P 9 (strOf l) (some (.int .i64 (wrap .i64 (b+1)))) none none i) λn=>xS (bO SS.P 9 (strOf l) none (some (.int .i64 b)) none i) λk=>wpS SS av.nm av.ms [1,1,1,1,1,1] cc (uN [(strOf l),undef,(.bool false),(strOf []),(strOf []),(.bool false),(strOf k),(strOf n),(.bool (((c:Int)==45))),(.int .i64 b),undef,undef,(strOf l),(strOf l),(.int .i64 ((l:LB).length:Int)),(.bool (decide ((((l:LB).length:Int):Int)>0))),(.bool true),(strOf l),(.int .u8 c),(.bool (((c:Int)==45))),(.bool (((c:Int)==45))),(.bool (((c:Int)==45))),undef,undef,(strOf l),(.int .i64 b),(.int .i64 b),(.bool (decide ((b:Int)>=0))),(strOf l),(.int .i64 b),(.int .i64 (wrap .i64 (b+1))),(strOf n),(strOf l),(.int .i64 b),(strOf k)] 46) i (EE SS av Q)) (wpS SS av.nm av.ms [1,1,1,1,1,1] cc (uN [(strOf l),undef,(.bool false),(strOf []),(strOf []),(.bool false),(strOf l),(strOf [49]),(.bool (((c:Int)==45))),(.int .i64 b),undef,undef,(strOf l),(strOf l),(.int .i64 ((l:LB).length:Int)),(.bool (decide ((((l:LB).length:Int):Int)>0))),(.bool true),(strOf l),(.int .u8 c),(.bool (((c:Int)==45))),(.bool (((c:Int)==45))),(.bool (((c:Int)==45))),undef,undef,(strOf l),(.int .i64 b),(.int .i64 b),(.bool (decide ((b:Int)>=0)))] 53) i (EE SS av Q)))) (FW SS 116 [(strOf l),(.int .u8 47)] h λq f=>yI .i64 q λa=>au (decide ((a:Int)>=0)) (xS (bO SS.P 9 (strOf l) (some (.int .i64 (wrap .i64 (a+1)))) none none f) λm=>xS (bO SS.P 9 (strOf l) none (some (.int .i64 a)) none f) λj=>wpS SS av.nm av.ms [1,1,1,1,1,1] cc (uN [(strOf l),undef,(.bool false),(strOf []),(strOf []),(.bool false),(strOf j),(strOf m),(.bool false),(.int .i64 a),undef,undef,(strOf l),(strOf l),(.int .i64 ((l:LB).length:Int)),(.bool (decide ((((l:LB).length:Int):Int)>0))),(.bool false),undef,undef,undef,(.bool false),(.bool false),undef,undef,(strOf l),(.int .i64 a),(.int .i64 a),(.bool (decide ((a:Int)>=0))),(strOf l),(.int .i64 a),(.int .i64 (wrap .i64 (a+1))),(strOf m),(strOf l),(.int .i64 a),(strOf j)] 46) f (EE SS av Q)) (wpS SS av.nm av.ms [1,1,1,1,1,1] cc (uN [(strOf l),undef,(.bool false),(strOf []),(strOf []),(.bool false),(strOf l),(strOf [49]),(.bool false),(.int .i64 a),undef,undef,(strOf l),(strOf l),(.int .i64 ((l:LB).length:Int)),(.bool (decide ((((l:LB).length:Int):Int)>0))),(.bool false),undef,undef,undef,(.bool false),(.bool false),undef,undef,(strOf l),(.int .i64 a),(.int .i64 a),(.bool (decide ((a:Int)>=0)))] 53) f (EE SS av Q)))
theorem Hg(l:LB)(h:ae)(Q:VH)(a:Av l (fB [1,1,1,1,1,1] av.body) h Q):FW SS 94 [(strOf l)] h Q:=by
 have e:∀cc,Av l cc h Q=wpS SS av.nm av.ms [] (setAt [1,1,1,1,1,1] cc av.body) ([(strOf l)]++List.replicate (av.nm-([(strOf l)]:LV).length) undef) h (EE SS av Q):=λcc=>by kernel_rfl
 have e:=e (fB [1,1,1,1,1,1] av.body);rw[iJ]at e;exact cJ av Tryz.func94 (ai a e)
abbrev tz(n d:LB)(neg:Bool)(a:Int)(cc:Code)(Z x1 X x3 Y W K L m H x P U G O M o l k w z V J B s I D p S i j x7 y9 u5 u4 y8 y3 y1 y6 z2 y0 x9 u0 u6 u3 z4 u2 z5 y5 x8 z9 x6 u1 z6 z7 y7 z8 y4 z1 z3 z0 y2 q t C r u A T E F y f g v N R:Value)(h:ae)(Q:VH):Prop:=FW SS 117 [(strOf n)] h λv1 h2=>yB v1 λe=>au (!e) (Q (.tuple ⟨[(.bool false),(strOf []),(strOf []),(.bool false)]⟩) h2) (FW SS 117 [(strOf d)] h2 λv4 c=>yB v4 λb=>au (!b) (Q (.tuple ⟨[(.bool false),(strOf []),(strOf []),(.bool false)]⟩) c) (au ((d:LB)==[48]) (Q (.tuple ⟨[(.bool false),(strOf []),(strOf []),(.bool false)]⟩) c) (au ((n:LB)==[48]) (au neg (Q (.tuple ⟨[(.bool false),(strOf []),(strOf []),(.bool false)]⟩) c) (au (decide ((a:Int)>=0)) (Q (.tuple ⟨[(.bool false),(strOf []),(strOf []),(.bool false)]⟩) c) (au ((d:LB)==[49]) (au (decide ((a:Int)>=0)) (Q (.tuple ⟨[(.bool false),(strOf []),(strOf []),(.bool false)]⟩) c) (wpS SS av.nm av.ms [1,1,1,1,1,1,1] cc [Z,x1,X,x3,Y,W,(strOf n),(strOf d),(.bool neg),(.int .i64 a),K,L,m,H,x,P,U,G,O,M,o,l,k,w,z,V,J,B,s,I,D,p,S,i,j,(strOf n),(.bool e),(.bool (!e)),(.bool false),(strOf d),(.bool b),(.bool (!b)),(.bool (!b)),(.bool false),(strOf d),(.bool ((d:LB)==[48])),(.bool ((d:LB)==[48])),(.bool false),(strOf n),(.bool ((n:LB)==[48])),(.bool true),(.bool neg),(.bool false),(.int .i64 a),(.bool (decide ((a:Int)>=0))),(.bool (decide ((a:Int)>=0))),(.bool (decide ((a:Int)>=0))),(.bool (decide ((a:Int)>=0))),(.bool false),(strOf d),(.bool ((d:LB)==[49])),(.bool true),(.int .i64 a),(.bool (decide ((a:Int)>=0))),(.bool (decide ((a:Int)>=0))),(.bool (decide ((a:Int)>=0))),q,t,C,r,u,A,T,E,F,y,f,g,v,N,R] c (EE SS av Q))) (wpS SS av.nm av.ms [1,1,1,1,1,1,1] cc [Z,x1,X,x3,Y,W,(strOf n),(strOf d),(.bool neg),(.int .i64 a),K,L,m,H,x,P,U,G,O,M,o,l,k,w,z,V,J,B,s,I,D,p,S,i,j,(strOf n),(.bool e),(.bool (!e)),(.bool false),(strOf d),(.bool b),(.bool (!b)),(.bool (!b)),(.bool false),(strOf d),(.bool ((d:LB)==[48])),(.bool ((d:LB)==[48])),(.bool false),(strOf n),(.bool ((n:LB)==[48])),(.bool true),(.bool neg),(.bool false),(.int .i64 a),(.bool (decide ((a:Int)>=0))),(.bool (decide ((a:Int)>=0))),(.bool (decide ((a:Int)>=0))),(.bool (decide ((a:Int)>=0))),(.bool false),(strOf d),(.bool ((d:LB)==[49])),(.bool false),undef,undef,(.bool false),(.bool false),q,t,C,r,u,A,T,E,F,y,f,g,v,N,R] c (EE SS av Q))))) (au ((d:LB)==[49]) (au (decide ((a:Int)>=0)) (Q (.tuple ⟨[(.bool false),(strOf []),(strOf []),(.bool false)]⟩) c) (wpS SS av.nm av.ms [1,1,1,1,1,1,1] cc [Z,x1,X,x3,Y,W,(strOf n),(strOf d),(.bool neg),(.int .i64 a),K,L,m,H,x,P,U,G,O,M,o,l,k,w,z,V,J,B,s,I,D,p,S,i,j,(strOf n),(.bool e),(.bool (!e)),(.bool false),(strOf d),(.bool b),(.bool (!b)),(.bool (!b)),(.bool false),(strOf d),(.bool ((d:LB)==[48])),(.bool ((d:LB)==[48])),(.bool false),(strOf n),(.bool ((n:LB)==[48])),(.bool false),undef,undef,undef,undef,undef,(.bool false),(.bool false),(.bool false),(strOf d),(.bool ((d:LB)==[49])),(.bool true),(.int .i64 a),(.bool (decide ((a:Int)>=0))),(.bool (decide ((a:Int)>=0))),(.bool (decide ((a:Int)>=0))),q,t,C,r,u,A,T,E,F,y,f,g,v,N,R] c (EE SS av Q))) (wpS SS av.nm av.ms [1,1,1,1,1,1,1] cc [Z,x1,X,x3,Y,W,(strOf n),(strOf d),(.bool neg),(.int .i64 a),K,L,m,H,x,P,U,G,O,M,o,l,k,w,z,V,J,B,s,I,D,p,S,i,j,(strOf n),(.bool e),(.bool (!e)),(.bool false),(strOf d),(.bool b),(.bool (!b)),(.bool (!b)),(.bool false),(strOf d),(.bool ((d:LB)==[48])),(.bool ((d:LB)==[48])),(.bool false),(strOf n),(.bool ((n:LB)==[48])),(.bool false),undef,undef,undef,undef,undef,(.bool false),(.bool false),(.bool false),(strOf d),(.bool ((d:LB)==[49])),(.bool false),undef,undef,(.bool false),(.bool false),q,t,C,r,u,A,T,E,F,y,f,g,v,N,R] c (EE SS av Q))))))
theorem A0{neg:Bool}{x2 x3 x4 x5 y4 y6 x y0 N z2 z9 x9 z1 y8 y p m M P u2 y3 U H y2 Y D z7 f l d C u0 z6 B o k u R j i y7 u1 z4 V z3 X r g y5 a y9 Z x7 A y1 q K S G n E I W F J T z8 x6 x8 O b c L z0 z5:Value}(hx:tz s t neg z (fB [1,1,1,1,1,1,1] av.body) v w x2 x3 x4 x5 y4 y6 x y0 N z2 z9 x9 z1 y8 y p m M P u2 y3 U H y2 Y D z7 f l d C u0 z6 B o k u R j i y7 u1 z4 V z3 X r g y5 a y9 Z x7 A y1 q K S G n E I W F J T z8 x6 x8 O b c L z0 z5 h Q):TT SS av [1,1,1,1,1,1] [v,w,x2,x3,x4,x5,(strOf s),(strOf t),(.bool neg),(.int .i64 z),y4,y6,x,y0,N,z2,z9,x9,z1,y8,y,p,m,M,P,u2,y3,U,H,y2,Y,D,z7,f,l,d,C,u0,z6,B,o,k,u,R,j,i,y7,u1,z4,V,z3,X,r,g,y5,a,y9,Z,x7,A,y1,q,K,S,G,n,E,I,W,F,J,T,z8,x6,x8,O,b,c,L,z0,z5] h (EE SS av Q):=by
 have e:∀cc,tz s t neg z cc v w x2 x3 x4 x5 y4 y6 x y0 N z2 z9 x9 z1 y8 y p m M P u2 y3 U H y2 Y D z7 f l d C u0 z6 B o k u R j i y7 u1 z4 V z3 X r g y5 a y9 Z x7 A y1 q K S G n E I W F J T z8 x6 x8 O b c L z0 z5 h Q=wpS SS av.nm av.ms [1,1,1,1,1,1] (setAt [1] cc (fB [1,1,1,1,1,1] av.body)) [v,w,x2,x3,x4,x5,(strOf s),(strOf t),(.bool neg),(.int .i64 z),y4,y6,x,y0,N,z2,z9,x9,z1,y8,y,p,m,M,P,u2,y3,U,H,y2,Y,D,z7,f,l,d,C,u0,z6,B,o,k,u,R,j,i,y7,u1,z4,V,z3,X,r,g,y5,a,y9,Z,x7,A,y1,q,K,S,G,n,E,I,W,F,J,T,z8,x6,x8,O,b,c,L,z0,z5] h (EE SS av Q):=λcc=>by kernel_rfl
 have e:=e (fB [1,1,1,1,1,1,1] av.body);have ec:(fB [1,1,1,1,1,1,1] av.body)=fB [1] (fB [1,1,1,1,1,1] av.body):=by kernel_rfl
 have es:setAt [1] (fB [1,1,1,1,1,1,1] av.body) (fB [1,1,1,1,1,1] av.body)=fB [1,1,1,1,1,1] av.body:=by rw[ec,iJ]
 rw[es]at e;exact ai hx e
theorem A1{neg:Bool}{x2 x3 x4 x5 y7 y9 B y3 R z5 u2 y2 z4 z1 C u p P T u5 y6 X K y5 x7 G u0 j o i F u3 z9 E r n A U m l z0 u4 z7 Y z6 x6 y k y8 d z2 x8 y0 D y4 x N V J q H L Z I M W u1 x9 y1 S f g O z3 z8:Value}(hx:FW SS 118 [(strOf s),(strOf t)] h λc e=>∃b:LB,∃a:Int,c=(.tuple ⟨[(strOf b),(.int .i64 a)]⟩)/\au (!((b:LB)==[49])) (au (!((t:LB)==[49])) (Q (.tuple ⟨[(.bool false),(strOf []),(strOf []),(.bool false)]⟩) e) (Q (.tuple ⟨[(.bool neg),(strOf s),(strOf t),(.bool true)]⟩) e)) (Q (.tuple ⟨[(.bool neg),(strOf s),(strOf t),(.bool true)]⟩) e)):TT SS av [1,1,1,1,1,1,1] [v,w,x2,x3,x4,x5,(strOf s),(strOf t),(.bool neg),(.int .i64 z),y7,y9,B,y3,R,z5,u2,y2,z4,z1,C,u,p,P,T,u5,y6,X,K,y5,x7,G,u0,j,o,i,F,u3,z9,E,r,n,A,U,m,l,z0,u4,z7,Y,z6,x6,y,k,y8,d,z2,x8,y0,D,y4,x,N,V,J,q,H,L,Z,I,M,W,u1,x9,y1,S,f,g,O,z3,z8] h (EE SS av Q):=ai hx
noncomputable def JK:FD:=cF Tryz.f71 []
theorem Hj(l:LB)(h:ae)(Q:VH)(g:FW SS 94 [(strOf l)] h λe f=>∃d:Bool,∃c:LB,∃b:LB,∃a:Bool,e=(.tuple ⟨[(.bool d),(strOf c),(strOf b),(.bool a)]⟩)/\Q (.bool a) f):FW SS 71 [(strOf l)] h Q:=cJ JK Tryz.func71 (ai g)
noncomputable def JJ:FD:=cF Tryz.f96 []
theorem Hi(l m:LB)(h:ae)(Q:VH)(e:FW SS 122 [(strOf l),(strOf m)] h λc d=>∃b:LB,∃a:Int,c=(.tuple ⟨[(strOf b),(.int .i64 a)]⟩)/\Q (strOf b) d):FW SS 96 [(strOf l),(strOf m)] h Q:=cJ JJ Tryz.func96 (ai e)
noncomputable def PW:FD:=cF Tryz.f95 []
theorem L5(p:Bool)(l:LB)(q:Bool)(m:LB)(h:ae)(Q:VH)(i:au (p==q) (FW SS 119 [(strOf l),(strOf m)] h λc d=>∃b:LB,∃a:Int,c=(.tuple ⟨[(strOf b),(.int .i64 a)]⟩)/\Q (.tuple ⟨[(.bool p),(strOf b)]⟩) d) (FW SS 120 [(strOf l),(strOf m)] h λf g=>yI .i64 f λe=>au (decide ((e:Int)>=0)) (FW SS 121 [(strOf l),(strOf m)] g λc d=>∃b:LB,∃a:Int,c=(.tuple ⟨[(strOf b),(.int .i64 a)]⟩)/\Q (.tuple ⟨[(.bool p),(strOf b)]⟩) d) (FW SS 121 [(strOf m),(strOf l)] g λc d=>∃b:LB,∃a:Int,c=(.tuple ⟨[(strOf b),(.int .i64 a)]⟩)/\Q (.tuple ⟨[(.bool q),(strOf b)]⟩) d))):FW SS 95 [(.bool p),(strOf l),(.bool q),(strOf m)] h Q:=cJ PW Tryz.func95 (ai i)
noncomputable def PV:FD:=cF Tryz.f72 []
theorem L4(l m:LB)(h:ae)(Q:VH)(w:FW SS 94 [(strOf l)] h λu v=>∃t:Bool,∃s:LB,∃r:LB,∃q:Bool,u=(.tuple ⟨[(.bool t),(strOf s),(strOf r),(.bool q)]⟩)/\FW SS 94 [(strOf m)] v λo p=>∃n:Bool,∃m:LB,∃l:LB,∃k:Bool,o=(.tuple ⟨[(.bool n),(strOf m),(strOf l),(.bool k)]⟩)/\au (!q) (Q (.int .i64 0) p) (au (!k) (Q (.int .i64 0) p) (FW SS 96 [(strOf s),(strOf l)] p λi j=>yS i λh=>FW SS 96 [(strOf m),(strOf r)] j λf g=>yS f λe=>FW SS 95 [(.bool t),(strOf h),(.bool (!n)),(strOf e)] g λc d=>∃b:Bool,∃a:LB,c=(.tuple ⟨[(.bool b),(strOf a)]⟩)/\au ((a:LB)==[48]) (Q (.int .i64 0) d) (au b (Q (.int .i64 (-1)) d) (Q (.int .i64 1) d))))):FW SS 72 [(strOf l),(strOf m)] h Q:=cJ PV Tryz.func72 (ai w)
noncomputable def PL:FD:=cF Tryz.f142 []
theorem LW(l:LB)(e:Int)(h:ae)(Q:VH)(a:au (((e:Int) !=0)) (xA (bg SS.P 176 []) λ_=>False) (Q (strOf l) h)):FW SS 142 [(strOf l),(.int .i64 e)] h Q:=cJ PL Tryz.func142 (ai a)
noncomputable def al:FD:=cF Tryz.f145 []
abbrev C1(l:LB)(cc:Code)(h:ae)(Q:VH):Prop:=xN (bq SS.P 155) h λm j=>FW SS 177 [(strOf l),(strOf [45])] j λg k=>∃c:LB,∃d:Bool,g=(.tuple ⟨[(strOf c),(.bool d)]⟩)/\FW SS 178 [(strOf c),(strOf [47])] k λi f=>∃e:LB,∃b:LB,∃a:Bool,i=(.tuple ⟨[(strOf e),(strOf b),(.bool a)]⟩)/\au (!a) (wpS SS al.nm al.ms [1,1,1,1] cc (uN [(strOf l),undef,(pA (h.next)),(.bool false),(strOf c),(.bool d),(strOf e),(strOf [49]),(.bool a),undef,undef,(.tuple ⟨[(strOf c),(.bool d)]⟩),(strOf l),(.tuple ⟨[(strOf c),(.bool d)]⟩),(strOf c),(.bool d),(.tuple ⟨[(strOf e),(strOf b),(.bool a)]⟩),(strOf c),(.tuple ⟨[(strOf e),(strOf b),(.bool a)]⟩),(strOf e),(strOf b),(.bool a),(.bool a),(.bool (!a))] 53) f (EE SS al Q)) (wpS SS al.nm al.ms [1,1,1,1] cc (uN [(strOf l),undef,(pA (h.next)),(.bool false),(strOf c),(.bool d),(strOf e),(strOf b),(.bool a),undef,undef,(.tuple ⟨[(strOf c),(.bool d)]⟩),(strOf l),(.tuple ⟨[(strOf c),(.bool d)]⟩),(strOf c),(.bool d),(.tuple ⟨[(strOf e),(strOf b),(.bool a)]⟩),(strOf c),(.tuple ⟨[(strOf e),(strOf b),(.bool a)]⟩),(strOf e),(strOf b),(.bool a),(.bool a),(.bool (!a))] 53) f (EE SS al Q))
theorem JE(l:LB)(h:ae)(Q:VH)(a:C1 l (fB [1,1,1,1] al.body) h Q):FW SS 145 [(strOf l)] h Q:=by
 have e:∀cc,C1 l cc h Q=wpS SS al.nm al.ms [] (setAt [1,1,1,1] cc al.body) ([(strOf l)]++List.replicate (al.nm-([(strOf l)]:LV).length) undef) h (EE SS al Q):=λcc=>by kernel_rfl
 have e:=e (fB [1,1,1,1] al.body);rw[iJ]at e;exact cJ al Tryz.func145 (ai a e)
abbrev vf(n d:LB)(neg r:Bool)(p:Addr)(cc:Code)(x0 x1 x3 x4 x9 Z x5 v X G y1 y6 W y0 x7 w q m F z9 u9 u4 u1 z8 u3 u2 z7 u7 z0 z2 y9 z6 u8 u6 z5 z3 z1 u I l j x6 y7 y3 N y2 P t i x2 f x8 S U x Y s E J A o y C O z D K y4 T V H g:Value)(h:ae)(Q:VH):Prop:=FW SS 171 [(strOf n)] h λv1 e=>yB v1 λc=>au (!c) (xA (bg SS.P 155 []) λc4=>xU (ah SS.P 155 (.pointer (some p)) (.agg ⟨c4⟩) e) e λu5 g6=>dX SS [((.pointer (some p)),some 155),((.bool false),none)] g6 Q) (FW SS 171 [(strOf d)] e λv7 a=>yB v7 λb=>au (!b) (xA (bg SS.P 155 []) λy5=>xU (ah SS.P 155 (.pointer (some p)) (.agg ⟨y5⟩) a) a λz4 k=>dX SS [((.pointer (some p)),some 155),((.bool false),none)] k Q) (au (decide ((((n:LB).length:Int):Int)>400)) (xA (bg SS.P 155 []) λM=>xU (ah SS.P 155 (.pointer (some p)) (.agg ⟨M⟩) a) a λy8 L=>dX SS [((.pointer (some p)),some 155),((.bool false),none)] L Q) (au (decide ((((d:LB).length:Int):Int)>400)) (xA (bg SS.P 155 []) λR=>xU (ah SS.P 155 (.pointer (some p)) (.agg ⟨R⟩) a) a λu0 B=>dX SS [((.pointer (some p)),some 155),((.bool false),none)] B Q) (wpS SS al.nm al.ms [1,1,1,1,1] cc [x0,x1,(.pointer (some p)),x3,x4,(.bool neg),(strOf n),(strOf d),(.bool r),x9,Z,x5,v,X,G,y1,y6,W,y0,x7,w,q,m,F,(strOf n),(.bool c),(.bool (!c)),(.bool false),(strOf d),(.bool b),(.bool (!b)),(.bool (!b)),(.bool false),(strOf n),(.int .i64 ((n:LB).length:Int)),(.bool (decide ((((n:LB).length:Int):Int)>400))),(.bool (decide ((((n:LB).length:Int):Int)>400))),(.bool false),(strOf d),(.int .i64 ((d:LB).length:Int)),(.bool (decide ((((d:LB).length:Int):Int)>400))),(.bool (decide ((((d:LB).length:Int):Int)>400))),u,I,l,j,x6,y7,y3,N,y2,P,t,i,x2,f,x8,S,U,x,Y,s,E,J,A,o,y,C,O,z,D,K,y4,T,V,H,g] a (EE SS al Q)))))
theorem C2{neg:Bool}{p:Addr}{x3 x4 x9 y2 y4 y x7 M y9 z5 x6 y8 y6 z q m L O z8 y1 T H y0 X D z3 f l d C z6 z2 B o k x P j i y5 z7 z1 U z0 W u g y3 a y7 Y x2 A x8 r K R G n E I V F J S z4 Z x5 N c:Value}(hx:vf s t neg b p (fB [1,1,1,1,1] al.body) v w x3 x4 x9 y2 y4 y x7 M y9 z5 x6 y8 y6 z q m L O z8 y1 T H y0 X D z3 f l d C z6 z2 B o k x P j i y5 z7 z1 U z0 W u g y3 a y7 Y x2 A x8 r K R G n E I V F J S z4 Z x5 N c h Q):TT SS al [1,1,1,1] [v,w,(.pointer (some p)),x3,x4,(.bool neg),(strOf s),(strOf t),(.bool b),x9,y2,y4,y,x7,M,y9,z5,x6,y8,y6,z,q,m,L,O,z8,y1,T,H,y0,X,D,z3,f,l,d,C,z6,z2,B,o,k,x,P,j,i,y5,z7,z1,U,z0,W,u,g,y3,a,y7,Y,x2,A,x8,r,K,R,G,n,E,I,V,F,J,S,z4,Z,x5,N,c] h (EE SS al Q):=by
 have e:∀cc,vf s t neg b p cc v w x3 x4 x9 y2 y4 y x7 M y9 z5 x6 y8 y6 z q m L O z8 y1 T H y0 X D z3 f l d C z6 z2 B o k x P j i y5 z7 z1 U z0 W u g y3 a y7 Y x2 A x8 r K R G n E I V F J S z4 Z x5 N c h Q=wpS SS al.nm al.ms [1,1,1,1] (setAt [1] cc (fB [1,1,1,1] al.body)) [v,w,(.pointer (some p)),x3,x4,(.bool neg),(strOf s),(strOf t),(.bool b),x9,y2,y4,y,x7,M,y9,z5,x6,y8,y6,z,q,m,L,O,z8,y1,T,H,y0,X,D,z3,f,l,d,C,z6,z2,B,o,k,x,P,j,i,y5,z7,z1,U,z0,W,u,g,y3,a,y7,Y,x2,A,x8,r,K,R,G,n,E,I,V,F,J,S,z4,Z,x5,N,c] h (EE SS al Q):=λcc=>by kernel_rfl
 have e:=e (fB [1,1,1,1,1] al.body);have ec:(fB [1,1,1,1,1] al.body)=fB [1] (fB [1,1,1,1] al.body):=by kernel_rfl
 have es:setAt [1] (fB [1,1,1,1,1] al.body) (fB [1,1,1,1] al.body)=fB [1,1,1,1] al.body:=by rw[ec,iJ]
 rw[es]at e;exact ai hx e
abbrev vh(n d:LB)(neg a:Bool)(p:Addr)(cc:Code)(x0 x1 x3 x4 x9 U V q P E Y x6 O X W r l i D G x8 T J z S L v x2 e g c u x7 Z t k f o z1 y8 y7 z7 u1 u0 z2 z9 z3 z0 y6 z6 y5 z8 z4 z5 s R m C H y j w A K x B I x5 M N F b:Value)(h:ae)(Q:VH):Prop:=au neg (au ((n:LB)==[48]) (xA (bg SS.P 155 []) λc1=>xU (ah SS.P 155 (.pointer (some p)) (.agg ⟨c1⟩) h) h λu2 g3=>dX SS [((.pointer (some p)),some 155),((.bool false),none)] g3 Q) (au a (au ((d:LB)==[48]) (xA (bg SS.P 155 []) λc4=>xU (ah SS.P 155 (.pointer (some p)) (.agg ⟨c4⟩) h) h λu5 g6=>dX SS [((.pointer (some p)),some 155),((.bool false),none)] g6 Q) (au ((d:LB)==[49]) (xA (bg SS.P 155 []) λc7=>xU (ah SS.P 155 (.pointer (some p)) (.agg ⟨c7⟩) h) h λu8 g9=>dX SS [((.pointer (some p)),some 155),((.bool false),none)] g9 Q) (wpS SS al.nm al.ms [1,1,1,1,1,1] cc [x0,x1,(.pointer (some p)),x3,x4,(.bool neg),(strOf n),(strOf d),(.bool a),x9,U,V,q,P,E,Y,x6,O,X,W,r,l,i,D,G,x8,T,J,z,S,L,v,x2,e,g,c,u,x7,Z,t,k,f,o,(.bool neg),(.bool true),(strOf n),(.bool ((n:LB)==[48])),(.bool ((n:LB)==[48])),(.bool false),(.bool a),(.bool true),(strOf d),(.bool ((d:LB)==[48])),(.bool false),(strOf d),(.bool ((d:LB)==[49])),(.bool ((d:LB)==[49])),(.bool ((d:LB)==[49])),(.bool ((d:LB)==[49])),s,R,m,C,H,y,j,w,A,K,x,B,I,x5,M,N,F,b] h (EE SS al Q)))) (wpS SS al.nm al.ms [1,1,1,1,1,1] cc [x0,x1,(.pointer (some p)),x3,x4,(.bool neg),(strOf n),(strOf d),(.bool a),x9,U,V,q,P,E,Y,x6,O,X,W,r,l,i,D,G,x8,T,J,z,S,L,v,x2,e,g,c,u,x7,Z,t,k,f,o,(.bool neg),(.bool true),(strOf n),(.bool ((n:LB)==[48])),(.bool ((n:LB)==[48])),(.bool false),(.bool a),(.bool false),undef,undef,undef,undef,undef,undef,(.bool false),(.bool false),s,R,m,C,H,y,j,w,A,K,x,B,I,x5,M,N,F,b] h (EE SS al Q)))) (au a (au ((d:LB)==[48]) (xA (bg SS.P 155 []) λy3=>xU (ah SS.P 155 (.pointer (some p)) (.agg ⟨y3⟩) h) h λy9 y0=>dX SS [((.pointer (some p)),some 155),((.bool false),none)] y0 Q) (au ((d:LB)==[49]) (xA (bg SS.P 155 []) λy2=>xU (ah SS.P 155 (.pointer (some p)) (.agg ⟨y2⟩) h) h λy4 y1=>dX SS [((.pointer (some p)),some 155),((.bool false),none)] y1 Q) (wpS SS al.nm al.ms [1,1,1,1,1,1] cc [x0,x1,(.pointer (some p)),x3,x4,(.bool neg),(strOf n),(strOf d),(.bool a),x9,U,V,q,P,E,Y,x6,O,X,W,r,l,i,D,G,x8,T,J,z,S,L,v,x2,e,g,c,u,x7,Z,t,k,f,o,(.bool neg),(.bool false),undef,undef,(.bool false),(.bool false),(.bool a),(.bool true),(strOf d),(.bool ((d:LB)==[48])),(.bool false),(strOf d),(.bool ((d:LB)==[49])),(.bool ((d:LB)==[49])),(.bool ((d:LB)==[49])),(.bool ((d:LB)==[49])),s,R,m,C,H,y,j,w,A,K,x,B,I,x5,M,N,F,b] h (EE SS al Q)))) (wpS SS al.nm al.ms [1,1,1,1,1,1] cc [x0,x1,(.pointer (some p)),x3,x4,(.bool neg),(strOf n),(strOf d),(.bool a),x9,U,V,q,P,E,Y,x6,O,X,W,r,l,i,D,G,x8,T,J,z,S,L,v,x2,e,g,c,u,x7,Z,t,k,f,o,(.bool neg),(.bool false),undef,undef,(.bool false),(.bool false),(.bool a),(.bool false),undef,undef,undef,undef,undef,undef,(.bool false),(.bool false),s,R,m,C,H,y,j,w,A,K,x,B,I,x5,M,N,F,b] h (EE SS al Q)))
theorem C3{neg:Bool}{p:Addr}{x3 x4 x9 y2 y4 y x7 M y9 z5 x6 y8 y6 z q m L O z8 y1 T H y0 X D z3 f l d C z6 z2 B o k x P j i y5 z7 z1 U z0 W u g y3 a y7 Y x2 A x8 r K R G n E I V F J S z4 Z x5 N c:Value}(hx:vh s t neg b p (fB [1,1,1,1,1,1] al.body) v w x3 x4 x9 y2 y4 y x7 M y9 z5 x6 y8 y6 z q m L O z8 y1 T H y0 X D z3 f l d C z6 z2 B o k x P j i y5 z7 z1 U z0 W u g y3 a y7 Y x2 A x8 r K R G n E I V F J S z4 Z x5 N c h Q):TT SS al [1,1,1,1,1] [v,w,(.pointer (some p)),x3,x4,(.bool neg),(strOf s),(strOf t),(.bool b),x9,y2,y4,y,x7,M,y9,z5,x6,y8,y6,z,q,m,L,O,z8,y1,T,H,y0,X,D,z3,f,l,d,C,z6,z2,B,o,k,x,P,j,i,y5,z7,z1,U,z0,W,u,g,y3,a,y7,Y,x2,A,x8,r,K,R,G,n,E,I,V,F,J,S,z4,Z,x5,N,c] h (EE SS al Q):=by
 have e:∀cc,vh s t neg b p cc v w x3 x4 x9 y2 y4 y x7 M y9 z5 x6 y8 y6 z q m L O z8 y1 T H y0 X D z3 f l d C z6 z2 B o k x P j i y5 z7 z1 U z0 W u g y3 a y7 Y x2 A x8 r K R G n E I V F J S z4 Z x5 N c h Q=wpS SS al.nm al.ms [1,1,1,1,1] (setAt [1] cc (fB [1,1,1,1,1] al.body)) [v,w,(.pointer (some p)),x3,x4,(.bool neg),(strOf s),(strOf t),(.bool b),x9,y2,y4,y,x7,M,y9,z5,x6,y8,y6,z,q,m,L,O,z8,y1,T,H,y0,X,D,z3,f,l,d,C,z6,z2,B,o,k,x,P,j,i,y5,z7,z1,U,z0,W,u,g,y3,a,y7,Y,x2,A,x8,r,K,R,G,n,E,I,V,F,J,S,z4,Z,x5,N,c] h (EE SS al Q):=λcc=>by kernel_rfl
 have e:=e (fB [1,1,1,1,1,1] al.body);have ec:(fB [1,1,1,1,1,1] al.body)=fB [1] (fB [1,1,1,1,1] al.body):=by kernel_rfl
 have es:setAt [1] (fB [1,1,1,1,1,1] al.body) (fB [1,1,1,1,1] al.body)=fB [1,1,1,1,1] al.body:=by rw[ec,iJ]
 rw[es]at e;exact ai hx e
abbrev vi(n d:LB)(neg t:Bool)(p:Addr)(cc:Code)(x0 x1 x3 x4 x9 z9 W w S E x6 y3 R x5 Z x s q D G y6 U I C T L B y1 i o g A y4 y0 z r m v H l k Y y5 x8 J x7 K u j V e x2 M O y z8 y8 z4 z5 z1 y7 y9 z2 z7 z0 z3 z6 y2 N P F f:Value)(h:ae)(Q:VH):Prop:=FW SS 175 [(strOf n),(strOf d)] h λv1 c=>∃a:LB,∃b:Int,v1=(.tuple ⟨[(strOf a),(.int .i64 b)]⟩)/\au (((b:Int) !=0)) (xA (bg SS.P 155 []) λc5=>xU (ah SS.P 155 (.pointer (some p)) (.agg ⟨c5⟩) c) c λu6 g7=>dX SS [((.pointer (some p)),some 155),((.bool false),none)] g7 Q) (au (!((a:LB)==[49])) (xA (bg SS.P 155 []) λc8=>xU (ah SS.P 155 (.pointer (some p)) (.agg ⟨c8⟩) c) c λu9 X=>dX SS [((.pointer (some p)),some 155),((.bool false),none)] X Q) (wpS SS al.nm al.ms [1,1,1,1,1,1,1] cc [x0,x1,(.pointer (some p)),x3,x4,(.bool neg),(strOf n),(strOf d),(.bool t),(strOf a),(.int .i64 b),W,w,S,E,x6,y3,R,x5,Z,x,s,q,D,G,y6,U,I,C,T,L,B,y1,i,o,g,A,y4,y0,z,r,m,v,H,l,k,Y,y5,x8,J,x7,K,u,j,V,e,x2,M,O,y,(.tuple ⟨[(strOf a),(.int .i64 b)]⟩),(strOf n),(strOf d),(.tuple ⟨[(strOf a),(.int .i64 b)]⟩),(strOf a),(.int .i64 b),(.int .i64 b),(.bool (((b:Int) !=0))),(.bool false),(strOf a),(.bool (!((a:LB)==[49]))),(.bool (!((a:LB)==[49]))),y2,N,P,F,f] c (EE SS al Q)))
theorem C4{neg:Bool}{p:Addr}{x3 x4 x9 y2 y4 y x7 M y9 z5 x6 y8 y6 z q m L O z8 y1 T H y0 X D z3 f l d C z6 z2 B o k x P j i y5 z7 z1 U z0 W u g y3 a y7 Y x2 A x8 r K R G n E I V F J S z4 Z x5 N c:Value}(hx:vi s t neg b p (fB [1,1,1,1,1,1,1] al.body) v w x3 x4 x9 y2 y4 y x7 M y9 z5 x6 y8 y6 z q m L O z8 y1 T H y0 X D z3 f l d C z6 z2 B o k x P j i y5 z7 z1 U z0 W u g y3 a y7 Y x2 A x8 r K R G n E I V F J S z4 Z x5 N c h Q):TT SS al [1,1,1,1,1,1] [v,w,(.pointer (some p)),x3,x4,(.bool neg),(strOf s),(strOf t),(.bool b),x9,y2,y4,y,x7,M,y9,z5,x6,y8,y6,z,q,m,L,O,z8,y1,T,H,y0,X,D,z3,f,l,d,C,z6,z2,B,o,k,x,P,j,i,y5,z7,z1,U,z0,W,u,g,y3,a,y7,Y,x2,A,x8,r,K,R,G,n,E,I,V,F,J,S,z4,Z,x5,N,c] h (EE SS al Q):=by
 have e:∀cc,vi s t neg b p cc v w x3 x4 x9 y2 y4 y x7 M y9 z5 x6 y8 y6 z q m L O z8 y1 T H y0 X D z3 f l d C z6 z2 B o k x P j i y5 z7 z1 U z0 W u g y3 a y7 Y x2 A x8 r K R G n E I V F J S z4 Z x5 N c h Q=wpS SS al.nm al.ms [1,1,1,1,1,1] (setAt [1] cc (fB [1,1,1,1,1,1] al.body)) [v,w,(.pointer (some p)),x3,x4,(.bool neg),(strOf s),(strOf t),(.bool b),x9,y2,y4,y,x7,M,y9,z5,x6,y8,y6,z,q,m,L,O,z8,y1,T,H,y0,X,D,z3,f,l,d,C,z6,z2,B,o,k,x,P,j,i,y5,z7,z1,U,z0,W,u,g,y3,a,y7,Y,x2,A,x8,r,K,R,G,n,E,I,V,F,J,S,z4,Z,x5,N,c] h (EE SS al Q):=λcc=>by kernel_rfl
 have e:=e (fB [1,1,1,1,1,1,1] al.body);have ec:(fB [1,1,1,1,1,1,1] al.body)=fB [1] (fB [1,1,1,1,1,1] al.body):=by kernel_rfl
 have es:setAt [1] (fB [1,1,1,1,1,1,1] al.body) (fB [1,1,1,1,1,1] al.body)=fB [1,1,1,1,1,1] al.body:=by rw[ec,iJ]
 rw[es]at e;exact ai hx e
theorem C5{neg r:Bool}{p:Addr}{x3 x4 x9 y3 y5 z x8 N z0 z6 x7 y9 y7 A q m M P z9 y2 U I y1 Y E z4 f l e D z7 z3 C o k y R j i y6 z8 z2 V z1 X x g y4 c y8 Z x5 B y0 u L S H n F J W G K T z5 x2 x6 O d:Value}(hx:xA (bg SS.P 155 [(0,(.bool neg)),(1,(strOf s)),(2,(strOf t))]) λb=>xU (ah SS.P 155 (.pointer (some p)) (.agg ⟨b⟩) h) h λ_ a=>dX SS [((.pointer (some p)),some 155),((.bool true),none)] a Q):TT SS al [1,1,1,1,1,1,1] [v,w,(.pointer (some p)),x3,x4,(.bool neg),(strOf s),(strOf t),(.bool r),x9,y3,y5,z,x8,N,z0,z6,x7,y9,y7,A,q,m,M,P,z9,y2,U,I,y1,Y,E,z4,f,l,e,D,z7,z3,C,o,k,y,R,j,i,y6,z8,z2,V,z1,X,x,g,y4,c,y8,Z,x5,B,y0,u,L,S,H,n,F,J,W,G,K,T,z5,x2,x6,O,d] h (EE SS al Q):=ai hx
noncomputable def LY:FD:=cF Tryz.f109 []
theorem JF(l:LB)(h:ae)(Q:VH)(e:FW SS 145 [(strOf l)] h λc d=>∃b:LV,∃a:Bool,c=(.tuple ⟨[(.agg ⟨b⟩),(.bool a)]⟩)/\Q (.bool a) d):FW SS 109 [(strOf l)] h Q:=cJ LY Tryz.func109 (ai e)
noncomputable def PM:FD:=cF Tryz.f141 []
theorem LX(p:Bool)(l:LB)(q:Bool)(m:LB)(h:ae)(Q:VH)(k:au (p==q) (FW SS 168 [(strOf l),(strOf m)] h λf g=>∃e:LB,∃d:Int,f=(.tuple ⟨[(strOf e),(.int .i64 d)]⟩)/\FW SS 142 [(strOf e),(.int .i64 d)] g λb c=>yS b λa=>Q (.tuple ⟨[(.bool p),(strOf a)]⟩) c) (FW SS 169 [(strOf l),(strOf m)] h λi j=>yI .i64 i λh=>au (decide ((h:Int)<0)) (FW SS 170 [(strOf m),(strOf l)] j λf g=>∃e:LB,∃d:Int,f=(.tuple ⟨[(strOf e),(.int .i64 d)]⟩)/\FW SS 142 [(strOf e),(.int .i64 d)] g λb c=>yS b λa=>Q (.tuple ⟨[(.bool q),(strOf a)]⟩) c) (FW SS 170 [(strOf l),(strOf m)] j λf g=>∃e:LB,∃d:Int,f=(.tuple ⟨[(strOf e),(.int .i64 d)]⟩)/\FW SS 142 [(strOf e),(.int .i64 d)] g λb c=>yS b λa=>Q (.tuple ⟨[(.bool p),(strOf a)]⟩) c))):FW SS 141 [(.bool p),(strOf l),(.bool q),(strOf m)] h Q:=cJ PM Tryz.func141 (ai k)
noncomputable def TR:FD:=cF Tryz.f149 []
theorem PG(l m:LB)(h:ae)(Q:VH)(N:FW SS 145 [(strOf l)] h λP D=>∃F:LV,∃H:Bool,P=(.tuple ⟨[(.agg ⟨F⟩),(.bool H)]⟩)/\xN (bq SS.P 155) D λ_ I=>xU (ah SS.P 155 (pA (D.next)) (.agg ⟨F⟩) I) I λ_ M=>FW SS 145 [(strOf m)] M λO C=>∃J:LV,∃G:Bool,O=(.tuple ⟨[(.agg ⟨J⟩),(.bool G)]⟩)/\xN (bq SS.P 155) C λ_ K=>xU (ah SS.P 155 (pA (C.next)) (.agg ⟨J⟩) K) K λ_ B=>au (!H) (Q (.int .i64 0) B) (au (!G) (Q (.int .i64 0) B) (fP 155 (pA (D.next)) 0 λE=>lB (room B 27) E λA=>fP 155 (pA (D.next)) 1 λR=>lS (room B 27) R λL=>fP 155 (pA (C.next)) 2 λz=>lS (room B 27) z λy=>FW SS 143 [(strOf L),(strOf y)] (room B 27) λw x=>∃v:LB,∃u:Int,w=(.tuple ⟨[(strOf v),(.int .i64 u)]⟩)/\FW SS 142 [(strOf v),(.int .i64 u)] x λs t=>yS s λr=>fP 155 (pA (C.next)) 0 λq=>lB t q λp=>fP 155 (pA (C.next)) 1 λo=>lS t o λn=>fP 155 (pA (D.next)) 2 λm=>lS t m λl=>FW SS 143 [(strOf n),(strOf l)] t λj k=>∃i:LB,∃h:Int,j=(.tuple ⟨[(strOf i),(.int .i64 h)]⟩)/\FW SS 142 [(strOf i),(.int .i64 h)] k λf g=>yS f λe=>FW SS 141 [(.bool A),(strOf r),(.bool (!p)),(strOf e)] g λc d=>∃b:Bool,∃a:LB,c=(.tuple ⟨[(.bool b),(strOf a)]⟩)/\(aj SS.P 4 x (.pointer (some E))=some (.bool A)/\dA 4 (.bool A) (.bool A)=true)/\(aj SS.P 4 t (.pointer (some E))=some (.bool A)/\dA 4 (.bool A) (.bool A)=true)/\(aj SS.P 4 k (.pointer (some E))=some (.bool A)/\dA 4 (.bool A) (.bool A)=true)/\(aj SS.P 4 g (.pointer (some E))=some (.bool A)/\dA 4 (.bool A) (.bool A)=true)/\(aj SS.P 4 (room B 27) (.pointer (some q))=some (.bool p)/\dA 4 (.bool p) (.bool p)=true)/\(aj SS.P 4 x (.pointer (some q))=some (.bool p)/\dA 4 (.bool p) (.bool p)=true)/\(aj SS.P 4 k (.pointer (some q))=some (.bool p)/\dA 4 (.bool p) (.bool p)=true)/\(aj SS.P 4 g (.pointer (some q))=some (.bool p)/\dA 4 (.bool p) (.bool p)=true)/\(aj SS.P 9 (room B 27) (.pointer (some o))=some (strOf n)/\dA 4 (strOf n) (strOf n)=true)/\(aj SS.P 9 x (.pointer (some o))=some (strOf n)/\dA 4 (strOf n) (strOf n)=true)/\(aj SS.P 9 (room B 27) (.pointer (some m))=some (strOf l)/\dA 4 (strOf l) (strOf l)=true)/\(aj SS.P 9 x (.pointer (some m))=some (strOf l)/\dA 4 (strOf l) (strOf l)=true)/\au ((a:LB)==[48]) (Q (.int .i64 0) d) (au b (Q (.int .i64 (-1)) d) (Q (.int .i64 1) d))))):FW SS 149 [(strOf l),(strOf m)] h Q:=cJ TR Tryz.func149 (ai N)
noncomputable def SH:FD:=cF Tryz.f204 []
theorem ON(l m:LB)(h:ae)(Q:VH)(b:au (decide ((((l:LB).length:Int):Int)>=((m:LB).length:Int))) (xS (bO SS.P 9 (strOf l) none (some (.int .i64 ((m:LB).length:Int))) none h) λa=>Q (.bool ((a:LB)==m)) h) (Q (.bool false) h)):FW SS 204 [(strOf l),(strOf m)] h Q:=cJ SH Tryz.func204 (ai b)
noncomputable def gr:FD:=cF Tryz.f171 [([1,1,0,1,0,0],[0,22,23])]
abbrev mr(l:LB)(i:Int):LV:=[(strOf l),(.int .i64 (l.length:Int)),(.int .i64 i)]
theorem Ar(l:LB)(h:ae)(Q:VH)(b:au ((l:LB)==[]) (Q (.bool false) h) (au (decide ((((l:LB).length:Int):Int)>1000)) (Q (.bool false) h) (au (decide ((((l:LB).length:Int):Int)>1)) (xI .u8 (bL SS.P 9 (strOf l) (.int .i64 0)) λa=>au (((a:Int)==48)) (Q (.bool false) h) (LL SS gr [1,1,0,1,0,0] [(strOf l),(.int .i64 ((l:LB).length:Int)),(.int .i64 0)] h (KK SS gr [1,1,0,1,0] [] (EE SS gr Q)))) (LL SS gr [1,1,0,1,0,0] [(strOf l),(.int .i64 ((l:LB).length:Int)),(.int .i64 0)] h (KK SS gr [1,1,0,1,0] [] (EE SS gr Q)))))):FW SS 171 [(strOf l)] h Q:=cJ gr Tryz.func171 (ai b)
theorem uL(l:LB)  (d:Nat->Int->ae->Prop) (Q:VH) (step:∀(c:Nat)(i:Int)(f:Nat->Value)(h:ae),d c i h->au (decide ((i:Int)<(l.length:Int))) (xI .u8 (bL SS.P 9 (strOf l) (.int .i64 i)) λb=>au (decide ((b:Int)<48)) (Q (.bool false) h) (xI .u8 (bL SS.P 9 (strOf l) (.int .i64 i)) λa=>au (decide ((a:Int)>57)) (Q (.bool false) h) (aJ (fj (mr l) d) c [(strOf l),(.int .i64 (l.length:Int)),(.int .i64 (wrap .i64 (i+1)))] h))) (Q (.bool true) h)) (c:Nat) {i:Int} {h:ae} (e:d c i h):LL SS gr [1,1,0,1,0,0] (mr l i) h (KK SS gr [1,1,0,1,0] [] (EE SS gr Q)):=
 db (mr l) d (λc i f h e=>ai (step c i f h e)) c e
noncomputable def gw:FD:=cF Tryz.f136 [([1,1,0,1,0,0],[0,3])]
abbrev gQ(l:LB)(i:Int):LV:=[(strOf l),(.int .i64 i)]
theorem Ax(l:LB)(h:ae)(Q:VH)(b:au (decide ((((l:LB).length:Int):Int)<1)) (Q (.bool false) h) (au (decide ((((l:LB).length:Int):Int)>1000)) (Q (.bool false) h) (xI .u8 (bL SS.P 9 (strOf l) (.int .i64 0)) λa=>au (((a:Int)==48)) (au (decide ((((l:LB).length:Int):Int)>1)) (Q (.bool false) h) (LL SS gw [1,1,0,1,0,0] (gQ l 0) h (KK SS gw [1,1,0,1,0] [] (EE SS gw Q)))) (LL SS gw [1,1,0,1,0,0] (gQ l 0) h (KK SS gw [1,1,0,1,0] [] (EE SS gw Q)))))):FW SS 136 [(strOf l)] h Q:=cJ gw Tryz.func136 (ai b)
theorem uO(l:LB)  (d:Nat->Int->ae->Prop) (Q:VH) (step:∀(c:Nat)(i:Int)(f:Nat->Value)(h:ae),d c i h->au (decide ((i:Int)<((l:LB).length:Int))) (xI .u8 (bL SS.P 9 (strOf l) (.int .i64 i)) λb=>au (decide ((b:Int)<48)) (Q (.bool false) h) (xI .u8 (bL SS.P 9 (strOf l) (.int .i64 i)) λa=>au (decide ((a:Int)>57)) (Q (.bool false) h) (aJ (fj (gQ l) d) c [(strOf l),(.int .i64 (wrap .i64 (i+1)))] h))) (Q (.bool true) h)) (c:Nat) {i:Int} {h:ae} (e:d c i h):LL SS gw [1,1,0,1,0,0] (gQ l i) h (KK SS gw [1,1,0,1,0] [] (EE SS gw Q)):=
 db (gQ l) d (λc i f h e=>ai (step c i f h e)) c e
noncomputable def iq:FD:=cF Tryz.f154 [([1,1,0,1,0,0],[0,1,5])]
abbrev ir(a b:LB)(i:Int):LV:=[(strOf a),(strOf b),(.int .i64 i)]
theorem Ep(a b:LB)(h:ae)(Q:VH)(c:au (((((a:LB).length:Int):Int) !=((b:LB).length:Int))) (au (decide ((((a:LB).length:Int):Int)<((b:LB).length:Int))) (Q (.int .i64 (-1)) h) (Q (.int .i64 1) h)) (LL SS iq [1,1,0,1,0,0] (ir a b 0) h (KK SS iq [1,1,0,1,0] [] (EE SS iq Q)))):FW SS 154 [(strOf a),(strOf b)] h Q:=cJ iq Tryz.func154 (ai c)
theorem sL(a b:LB)  (g:Nat->Int->ae->Prop) (Q:VH) (step:∀(f:Nat)(i:Int)(k:Nat->Value)(h:ae),g f i h->au (decide ((i:Int)<((a:LB).length:Int))) (xI .u8 (bL SS.P 9 (strOf a) (.int .i64 i)) λe=>xI .u8 (bL SS.P 9 (strOf b) (.int .i64 i)) λd=>au (((e:Int) !=d)) (xI .u8 (bL SS.P 9 (strOf a) (.int .i64 i)) λc=>xI .u8 (bL SS.P 9 (strOf b) (.int .i64 i)) λa=>au (decide ((c:Int)<a)) (Q (.int .i64 (-1)) (room (room h 7) 7)) (Q (.int .i64 1) (room (room h 7) 7))) (aJ (fj (ir a b) g) f [(strOf a),(strOf b),(.int .i64 (wrap .i64 (i+1)))] (room h 7))) (Q (.int .i64 0) h)) (f:Nat) {i:Int} {h:ae} (j:g f i h):LL SS iq [1,1,0,1,0,0] (ir a b i) h (KK SS iq [1,1,0,1,0] [] (EE SS iq Q)):=
 db (ir a b) g (λf i k h j=>ai (step f i k h j)) f j
noncomputable def Xz:FD:=cF Tryz.f151 []
theorem T5(a:OA)(n c:Nat)(i:Int)(h:ae)(Q:VH)(d:au (decide ((i:Int)<(n:Int))) (iP 22 (.slice a n c) (.int .i64 i) λb=>lI h b λa=>Q (.int .i64 a) h) (Q (.int .i64 0) h)):FW SS 151 [(.slice a n c),(.int .i64 i)] h Q:=cJ Xz Tryz.func151 (ai d)
noncomputable def jA:FD:=cF Tryz.f150 [([1,1,0,1,0,0],[0,3,4])]
abbrev lR(l:LB)(i:Int)(a:OA)(n c:Nat):LV:=[(strOf l),(.slice a n c),(.int .i64 i)]
theorem Hm(l:LB)(h:ae)(Q:VH)(a:LL SS jA [1,1,0,1,0,0] [(strOf l),nA,(.int .i64 (wrap .i64 (((l:LB).length:Int)-1)))] h (KK SS jA [1,1,0,1,0] [] (EE SS jA Q))):FW SS 150 [(strOf l)] h Q:=cJ jA Tryz.func150 (ai a)
theorem tB(l:LB)  (m:Nat->Int->OA->Nat->Nat->ae->Prop) (Q:VH) (step:∀(k:Nat)(i:Int)(a:OA)(n c:Nat)(p:Nat->Value)(h:ae),m k i a n c h->au (decide ((i:Int)>=0)) (xI .u8 (bL SS.P 9 (strOf l) (.int .i64 i)) λj=>xR (aF SS.P 22 1 [(0,(.int .i64 (wrap .i64 (wrap .u8 (j-48)))))]) h λ_ e f g=>xE (bF SS.P 22 22 (.slice a n c) (sA (h.next) e f) g) g λa b c _ d=>aJ (Ys (lR l) m) k [(strOf l),(.slice a b c),(.int .i64 (wrap .i64 (i-1)))] d) (Q (.slice a n c) h)) (k:Nat) {i:Int} {a:OA} {n c:Nat} {h:ae} (o:m k i a n c h):LL SS jA [1,1,0,1,0,0] (lR l i a n c) h (KK SS jA [1,1,0,1,0] [] (EE SS jA Q)):=
 Ug (lR l) m (λk i a n c p h o=>ai (step k i a n c p h o)) k o
variable{i:Nat}{a:Option Addr}{n:Nat}{x:List Nat}
theorem XV:SS.P.underlying 9=some .string:=by kernel_rfl
theorem AU(l:List UInt8){h:ae}{i:Int}(b:0<=i)(a:i<l.length):bL SS.P 9 (strOf l) (.int .i64 i)=some (.int .u8 ((l.getD i.toNat 0).toNat:Nat)):=oh XV l _ b a
theorem Sh{c:UInt8}(a:¬(c.toNat:Int)<48)(b:¬(c.toNat:Int)>57):bM c=true:=by
 unfold bM;simp;omega
theorem GZ{c:UInt8}(h:(c.toNat:Int)<48\/(c.toNat:Int)>57):bM c=false:=by
 unfold bM;simp;omega
theorem uW(b:i<s.length)(c:(s.take i).all bM=true)(a:bM (s.getD i 0)=true):(s.take (i+1)).all bM=true:=by
 rw[List.take_succ_eq_append_getElem b,List.all_append,c];rw[gD,gE b]at a;simpa using a
theorem tX(b:i<s.length)(a:bM (s.getD i 0)=false):s.all bM=false:=by
 rw[gD,gE b]at a;exact List.all_eq_false.2 ⟨s[i],getElem_mem b,by simpa using a⟩
theorem Dz(h:1000<s.length):Num.valid s=false:=by
 unfold Num.valid;rw[decide_eq_false (by omega:¬s.length<=1000)];simp
theorem DA(h:1<s.length)(b:s.getD 0 0=48):Num.valid s=false:=by
 unfold Num.valid
 cases s with
 |nil=>rfl
 |cons a s=>
  have b:a=48:=b;subst b;rw[decide_eq_true h];simp
theorem uD(e:s≠[])(c:s.length<=1000)(d:1<s.length->s.getD 0 0≠48):Num.valid s=s.all bM:=by
 unfold Num.valid
 cases s with
 |nil=>exact absurd rfl e
 |cons a s=>
  rw[decide_eq_true c];by_cases h:1<(a::s).length
  ·have b:a≠48:=d h;rw[decide_eq_true h];simp[b]
  ·rw[decide_eq_false h];simp
theorem F1{c:UInt8}:((c.toNat:Int)==48)=true↔c=48:=by
 rw[beq_iff_eq];refine⟨λh=>UInt8.toNat_inj.1 ?_,λh=>by rw[h];rfl⟩;have a:(48:UInt8).toNat=48:=rfl;omega
theorem dC(l:List UInt8)(h:ae):FW SS 171 [strOf l] h (λv o=>v = .bool (Num.valid l)/\o=h):=by
 by_cases j:l.length<=1000
 case neg=>
  refine Ar l h _ (aa (λa=>?_) (λa=>aa (λd=>?_) (λd=>?_)))
  ·obtain rfl:l=[]:=by simpa using a
   exact⟨rfl,rfl⟩
  ·exact⟨by rw[Dz (by omega)],rfl⟩
  ·have:=dF d;omega
 have L:=λ(n:Num.valid l=l.all bM)=>uL l (λm i g=>0<=i/\i<=l.length/\m=l.length-i.toNat/\(l.take i.toNat).all bM=true/\g=h) (λv o=>v = .bool (Num.valid l)/\o=h) (by
  intro m i;intros;rename_i g t;obtain⟨a,d,k,b,rfl⟩:=t;refine aa (λc=>?_) (λc=>?_)
  ·have c:=dT c;have f:i.toNat<l.length:=by omega
   refine⟨_,AU (h:=g) l a c,aa (λq=>?_) (λq=>⟨_,AU (h:=g) l a c,aa (λp=>?_) (λp=>?_)⟩)⟩
   ·exact⟨by rw[n,tX f (GZ (.inl (dT q)))],rfl⟩
   ·exact⟨by rw[n,tX f (GZ (.inr (dT p)))],rfl⟩
   ·have s:wrap .i64 (i+1)=i+1:=aB (by omega) (by omega);refine bW (m-1) (by omega) ?_;rw[s];refine⟨by omega,by omega,by omega,?_,rfl⟩;rw[show(i+1).toNat=i.toNat+1 by omega];exact uW f b (Sh (dF q) (dF p))
  ·have c:=dF c;refine⟨?_,rfl⟩;rw[n,<-b,take_of_length_le (by omega)])
 refine Ar l h _ (aa (λa=>?_) (λa=>aa (λd=>?_) (λd=>?_)))
 ·obtain rfl:l=[]:=by simpa using a
  exact⟨rfl,rfl⟩
 ·have:=dT d;omega
 ·have a:l≠[]:=by simpa using a
  have r:=List.length_pos_iff.2 a;refine aa (λk=>⟨_,AU (h:=h) l (by omega) (by omega),aa (λb=>?_) (λb=>?_)⟩) (λk=>?_)
  ·exact⟨by rw[DA (by have:=dT k;omega) (F1.1 b)],rfl⟩
  ·exact L (uD a j λ_ e=>by have b:(((l.getD 0 0).toNat:Int)==48)=false:=b;rw[F1.2 e]at b;cases b) l.length ⟨by omega,by omega,by simp,by simp,rfl⟩
  ·exact L (uD a j λe=>by have:=dF k;omega) l.length ⟨by omega,by omega,by simp,by simp,rfl⟩
theorem dm(l:List UInt8)(h:ae):FW SS 136 [strOf l] h (λv o=>v = .bool (Num.valid l)/\o=h):=by
 by_cases j:l.length<=1000
 case neg=>
  refine Ax l h _ (aa (λa=>?_) (λa=>aa (λd=>?_) (λd=>?_)))
  ·have a:=dT a;omega
  ·exact⟨by rw[Dz (by omega)],rfl⟩
  ·have:=dF d;omega
 have L:=λ(n:Num.valid l=l.all bM)=>uO l (λm i g=>0<=i/\i<=l.length/\m=l.length-i.toNat/\(l.take i.toNat).all bM=true/\g=h) (λv o=>v = .bool (Num.valid l)/\o=h) (by
  intro m i;intros;rename_i g t;obtain⟨a,d,k,b,rfl⟩:=t;refine aa (λc=>?_) (λc=>?_)
  ·have c:=dT c;have f:i.toNat<l.length:=by omega
   refine⟨_,AU (h:=g) l a c,aa (λq=>?_) (λq=>⟨_,AU (h:=g) l a c,aa (λp=>?_) (λp=>?_)⟩)⟩
   ·exact⟨by rw[n,tX f (GZ (.inl (dT q)))],rfl⟩
   ·exact⟨by rw[n,tX f (GZ (.inr (dT p)))],rfl⟩
   ·have s:wrap .i64 (i+1)=i+1:=aB (by omega) (by omega);refine bW (m-1) (by omega) ?_;rw[s];refine⟨by omega,by omega,by omega,?_,rfl⟩;rw[show(i+1).toNat=i.toNat+1 by omega];exact uW f b (Sh (dF q) (dF p))
  ·have c:=dF c;refine⟨?_,rfl⟩;rw[n,<-b,take_of_length_le (by omega)])
 refine Ax l h _ (aa (λa=>?_) (λa=>aa (λd=>?_) (λd=>?_)))
 ·have a:=dT a;obtain rfl:l=[]:=List.eq_nil_of_length_eq_zero (by omega);exact⟨rfl,rfl⟩
 ·have:=dT d;omega
 ·have a:=dF a;have a:l≠[]:=λe=>by subst e;simp at a
  have r:=List.length_pos_iff.2 a;refine⟨_,AU (h:=h) l (by omega) (by omega),aa (λb=>aa (λk=>?_) (λk=>?_)) (λb=>?_)⟩
  ·exact⟨by rw[DA (by have:=dT k;omega) (F1.1 b)],rfl⟩
  ·exact L (uD a j λe=>by have:=dF k;omega) l.length ⟨by omega,by omega,by simp,by simp,rfl⟩
  ·exact L (uD a j λ_ e=>by have b:(((l.getD 0 0).toNat:Int)==48)=false:=b;rw[F1.2 e]at b;cases b) l.length ⟨by omega,by omega,by simp,by simp,rfl⟩
theorem Lv{a b:Nat}(h:((a:Int) !=b)=true):a≠b:=by
 intro e;subst e;simp at h
theorem K7{a b:Nat}(h:((a:Int) !=b)=false):a=b:=by
 by_cases e:a=b
 ·exact e
 ·exfalso;have:(a:Int)≠b:=by omega
  simp[this]at h
theorem qm(m n:Nat)(y:(ag m).length<9223372036854775807)(x:(ag n).length<9223372036854775807)(h:ae)(w:Wf h):FW SS 154 [strOf (ag m),strOf (ag n)] h (λv q=>v = .int .i64 (eE m n)/\Ok h q):=by
 have L:=λ(s:(ag m).length=(ag n).length)=>sL (ag m) (ag n) (λk i g=>0<=i/\i<=(ag m).length/\k=(ag m).length-i.toNat/\(ag m).take i.toNat=(ag n).take i.toNat/\Ok h g) (λv q=>v = .int .i64 (eE m n)/\Ok h q) (by
  intro k i;intros;rename_i g u;obtain⟨a,f,z,e,j⟩:=u;refine aa (λb=>?_) (λb=>?_)
  ·have b:=dT b;have r:i.toNat<(ag m).length:=by omega
   have p:i.toNat<(ag n).length:=by omega
   have l:(ag m)[i.toNat]?=some ((ag m).getD i.toNat 0):=by rw[gD,gE r];rfl
   have o:(ag n)[i.toNat]?=some ((ag n).getD i.toNat 0):=by rw[gD,gE p];rfl
   refine⟨_,AU (h:=g) _ a b,_,AU (h:=g) _ a (by omega),aa (λc=>?_) (λc=>?_)⟩
   ·refine⟨_,AU (h:=g) _ a b,_,AU (h:=g) _ a (by omega),aa (λd=>?_) (λd=>?_)⟩
    ·have d:=dT d;have:=oE (cO n) (cO m) s e l o (UInt8.lt_iff_toNat_lt.2 (by omega));rw[bt,bt]at this;exact⟨by rw[lb this],(j.room 7).room 7⟩
    ·have d:=dF d;have c:=Lv c;have:=oE (cO m) (cO n) s.symm e.symm o l (UInt8.lt_iff_toNat_lt.2 (by omega));rw[bt,bt]at this;exact⟨by rw[la this],(j.room 7).room 7⟩
   ·have c:=K7 c;have t:wrap .i64 (i+1)=i+1:=aB (by omega) (by omega);refine bW (k-1) (by omega) ?_;rw[t];refine⟨by omega,by omega,by omega,?_,j.room 7⟩;rw[show(i+1).toNat=i.toNat+1 by omega,List.take_add_one,List.take_add_one,e,l,o,UInt8.toNat_inj.1 c]
  ·have b:=dF b;rw[take_of_length_le (by omega),take_of_length_le (by omega)]at e;exact⟨by rw[sY e,qs],j⟩)
 refine Ep _ _ h _ (aa (λa=>aa (λf=>?_) (λf=>?_)) (λa=>?_))
 ·exact⟨by rw[lb (lH (by have:=dT f;omega))],Ok.refl w⟩
 ·have a:=Lv a;exact⟨by rw[la (lH (by have:=dF f;omega))],Ok.refl w⟩
 ·have a:=K7 a;exact L a (ag m).length ⟨by omega,by omega,by simp,by simp,Ok.refl w⟩
def iv(d:Nat):Value:= .int .i64 (d:Int)
theorem sc:SS.P.underlying 22=some (.slice 3):=by kernel_rfl
theorem Vv:aE SS.P 3=some 1:=by kernel_rfl
theorem Hz:SS.P.underlying 3=some (.int .i64):=by kernel_rfl
theorem Gu:Go.Ab.isAgg SS.P 3=false:=by kernel_rfl
noncomputable def re3:TypeInfo:=(eN SS.P 3).getD default
theorem T0:eN SS.P 3=some re3:=by kernel_rfl
theorem JH:re3.size=1:=by kernel_rfl
theorem Fv:re3.bytes=8:=by kernel_rfl
theorem tg(l:List Nat)(i:Nat)(h:i<l.length):(l.map iv).getD i undef = .int .i64 (l.getD i 0:Nat):=by
 simp[gD,getElem?_map,gE h,iv]
theorem tA{c:Nat}(r:Rd h 3 (.slice a n c) (x.map iv))(i:Nat):FW SS 151 [.slice a n c,.int .i64 (i:Int)] h (λv g=>v = .int .i64 (x.getD i 0:Nat)/\g=h):=by
 have e:=r.len;rw[lM]at e;refine T5 a n c i h _ (aa (λb=>?_) (λb=>?_))
 ·have b:=dT b;obtain⟨p,f,d⟩:=r.at_ sc Vv Hz Gu (k:= .i64) (i:=(i:Int)) (by omega) (by rw[lM];omega);rw[Int.toNat_natCast,tg x i (by omega)]at d;exact⟨p,f,_,d,rfl,rfl⟩
 ·have b:=dF b;refine⟨?_,rfl⟩;rw[gD,List.getElem?_eq_none (by omega)];rfl
noncomputable def mw:FD:=cF Tryz.f155 [([1,1,1,0,1,0,0],[0,1,5,6,7])]
abbrev iD(a:OA)(n c:Nat)(b:OA)(m d:Nat)(k cc:Nat)(r:OA)(e f:Nat):LV:=[(.slice a n c),(.slice b m d),(.slice r e f),(iA cc),(iA k)]
theorem L7(a:OA)(n c:Nat)(b:OA)(m d:Nat)(h:ae)(Q:VH)(e:LL SS mw [1,1,1,0,1,0,0] (iD a n c b m d 0 0 none 0 0) h (KK SS mw [1,1,1,0,1,0] [] (EE SS mw Q))):FW SS 155 [(.slice a n c),(.slice b m d)] h Q:=cJ mw Tryz.func155 (ai e)
theorem vX(a:OA)(n c:Nat)(b:OA)(m d:Nat)  (x:Nat->Nat->Nat->OA->Nat->Nat->ae->Prop) (Q:VH) (step:∀(y:Nat)(k cc:Nat)(r:OA)(v w:Nat)(A:Nat->Value)(h:ae),x y k cc r v w h->au (decide (((k:Int):Int)<(n:Int))) (FW SS 151 [(.slice a n c),(iA k)] h λt u=>yI .i64 t λs=>FW SS 151 [(.slice b m d),(iA k)] u λp q=>yI .i64 p λo=>au (decide ((wrap .i64 (wrap .i64 (s-o)-(cc:Int)):Int)<0)) (xR (aF SS.P 22 1 [(0,(.int .i64 (wrap .i64 (wrap .i64 (wrap .i64 (s-o)-(cc:Int))+10))))]) q λ_ i j l=>xE (bF SS.P 22 22 (.slice r v w) (sA (q.next) i j) l) l λe f g _ h=>aJ (BF (iD a n c b m d) x) y [(.slice a n c),(.slice b m d),(.slice e f g),(.int .i64 1),(.int .i64 (wrap .i64 ((k:Int)+1)))] h) (xR (aF SS.P 22 1 [(0,(.int .i64 (wrap .i64 (wrap .i64 (s-o)-(cc:Int)))))]) q λ_ i j l=>xE (bF SS.P 22 22 (.slice r v w) (sA (q.next) i j) l) l λe f g _ h=>aJ (BF (iD a n c b m d) x) y [(.slice a n c),(.slice b m d),(.slice e f g),(.int .i64 0),(.int .i64 (wrap .i64 ((k:Int)+1)))] h)) (Q (.slice r v w) h)) (y:Nat) {k cc:Nat} {r:OA} {v w:Nat} {h:ae} (z:x y k cc r v w h):LL SS mw [1,1,1,0,1,0,0] (iD a n c b m d k cc r v w) h (KK SS mw [1,1,1,0,1,0] [] (EE SS mw Q)):=
 FE (iD a n c b m d) x (λy k cc r v w A h z=>ai (step y k cc r v w A h z)) y z
noncomputable def eB:FD:=cF Tryz.f153 [([1,1,0,0,0],[0,3]),([1,1,1,1,0,1,0,0],[0,4,5])]
abbrev nw(a:OA)(n c:Nat)(z:Int):LV:=[(.slice a n c),(.int .i64 z)]
abbrev iE(a:OA)(n c:Nat)(i:Int)(r:OA)(b d:Nat):LV:=[(.slice a n c),(.slice r b d),(.int .i64 i)]
theorem L8(a:OA)(n c:Nat)(h:ae)(Q:VH)(b:LL SS eB [1,1,0,0,0] [(.slice a n c),(iA n)] h (KK SS eB [1,1,0,0] [] (EE SS eB Q))):FW SS 153 [(.slice a n c)] h Q:=cJ eB Tryz.func153 (ai b)
theorem vY(a:OA)(n c:Nat)  (f:Nat->Int->ae->Prop) (Q:VH) (step:∀(e:Nat)(z:Int)(i:Nat->Value)(h:ae),f e z h->au (decide ((z:Int)>1)) (iP 22 (.slice a n c) (.int .i64 (wrap .i64 (z-1))) λd=>lI h d λb=>au (((b:Int)==0)) (aJ (fj (nw a n c) f) e [(.slice a n c),(.int .i64 (wrap .i64 (z-1)))] h) (LL SS eB [1,1,1,1,0,1,0,0] (iE a n c (wrap .i64 (z-1)) none 0 0) h (KK SS eB [1,1,1,1,0,1,0] [] (EE SS eB Q)))) (LL SS eB [1,1,1,1,0,1,0,0] (iE a n c (wrap .i64 (z-1)) none 0 0) h (KK SS eB [1,1,1,1,0,1,0] [] (EE SS eB Q)))) (e:Nat) {z:Int} {h:ae} (g:f e z h):LL SS eB [1,1,0,0,0] (nw a n c z) h (KK SS eB [1,1,0,0] [] (EE SS eB Q)):=
 db (nw a n c) f (λe z i h g=>ai (step e z i h g)) e g
theorem vZ(a:OA)(n c:Nat)  (s:Nat->Int->OA->Nat->Nat->ae->Prop) (Q:VH) (step:∀(q:Nat)(i:Int)(r:OA)(o p:Nat)(u:Nat->Value)(h:ae),s q i r o p h->au (decide ((i:Int)>=0)) (iP 22 (.slice a n c) (.int .i64 i) λm=>lI h m λl=>xR (aF SS.P 172 1 [(0,(.int .u8 (wrap .u8 (wrap .i64 (48+l)))))]) h λ_ g j k=>xE (bF SS.P 172 172 (.slice r o p) (sA (h.next) g j) k) k λb d e _ f=>aJ (Ys (iE a n c) s) q [(.slice a n c),(.slice b d e),(.int .i64 (wrap .i64 (i-1)))] f) (au ((((o:Int):Int)==0)) (Q (strOf [48]) h) (xS (A3 SS.P 172 9 (.slice r o p) h) λa=>Q (strOf a) h))) (q:Nat) {i:Int} {r:OA} {o p:Nat} {h:ae} (t:s q i r o p h):LL SS eB [1,1,1,1,0,1,0,0] (iE a n c i r o p) h (KK SS eB [1,1,1,1,0,1,0] [] (EE SS eB Q)):=
 Ug (iE a n c) s (λq i r o p u h t=>ai (step q i r o p u h t)) q t
variable{g:ae}{m:Nat}{y:List Nat}
theorem Ow(z:Int):aF SS.P 22 1 [(0,.int .i64 z)]=some (.cells [.int .i64 z] 3 1 true,my 1 1):=by kernel_rfl
theorem YD(z:Int):aF SS.P 172 1 [(0,.int .u8 z)]=some (.cells [.int .u8 z] 5 1 true,my 1 1):=by kernel_rfl
theorem AA:SS.P.underlying 172=some (.slice 5):=by kernel_rfl
theorem un5:SS.P.underlying 5=some (.int .u8):=by kernel_rfl
theorem zz5:aE SS.P 5=some 1:=by kernel_rfl
theorem ag5:Go.Ab.isAgg SS.P 5=false:=by kernel_rfl
noncomputable def re5:TypeInfo:=(eN SS.P 5).getD default
theorem aad:eN SS.P 5=some re5:=by kernel_rfl
theorem T1:re5.size=1:=by kernel_rfl
theorem PQ:re5.bytes=1:=by kernel_rfl
theorem Dl(d:Wf g)(e:Ok g h){v:Value}{a:List Value}(o:eh g h 3 v a)(z:Int)(f:a.length<=100000):
  ∃(b:Option Addr)(n c:Nat)(u:dJ),bF SS.P 22 22 v (.slice (some ⟨h.next,0,none⟩) 1 1) (h.push (.cells [.int .i64 z] 3 1 true))=some (.slice b n c,u)/\n=a.length+1/\eh g (u.app (h.push (.cells [.int .i64 z] 3 1 true))) 3 (.slice b n c) (a++[.int .i64 z])/\Ok g (u.app (h.push (.cells [.int .i64 z] 3 1 true))):=
 eh.snoc sc T0 JH d e o rfl (by rw[Fv];omega) (by omega)
theorem NC(d:Wf g)(e:Ok g h){v:Value}{a:List Value}(o:eh g h 5 v a)(z:Int)(f:a.length<=100000):
  ∃(b:Option Addr)(n c:Nat)(u:dJ),bF SS.P 172 172 v (.slice (some ⟨h.next,0,none⟩) 1 1) (h.push (.cells [.int .u8 z] 5 1 true))=some (.slice b n c,u)/\n=a.length+1/\eh g (u.app (h.push (.cells [.int .u8 z] 5 1 true))) 5 (.slice b n c) (a++[.int .u8 z])/\Ok g (u.app (h.push (.cells [.int .u8 z] 5 1 true))):=
 eh.snoc AA aad T1 d e o rfl (by rw[PQ];omega) (by omega)
theorem OI(c:UInt8)(l:List UInt8):fm (c::l)=fm l++[jj c]:=by simp[fm]
theorem E2(h:i<s.length):s.drop i=s.getD i 0::s.drop (i+1):=by
 rw[gD,gE h,drop_eq_getElem_cons h];rfl
theorem Cb(a:s.all bM=true){i:Nat}(h:i<s.length):bM (s.getD i 0)=true:=by
 rw[gD,gE h];exact all_eq_true.1 a _ (getElem_mem h)
def iO(h:ae)(e:TypeId)(d:List Value):VH:=λv b=>∃a n c,v = .slice a n c/\eh h b e (.slice a n c) d/\Ok h b
theorem r4(l:List UInt8)(C:l.all bM=true)(t:l.length<=100000)(h:ae)(w:Wf h):FW SS 150 [strOf l] h (iO h 3 ((fm l).map iv)):=by
 have L:=tB l (λk i a n c g=> -1<=i/\i<l.length/\k=(i+1).toNat/\eh h g 3 (.slice a n c) ((fm (l.drop (i+1).toNat)).map iv)/\Ok h g) (iO h 3 ((fm l).map iv)) (by
  intro k i a n c;intros;rename_i g y;obtain⟨F,x,E,r,s⟩:=y;refine aa (λf=>?_) (λf=>?_)
  ·have f:=dT f;have j:i.toNat<l.length:=by omega
   have p:=Cb C j;have D:=lf.1 p;refine⟨_,AU (h:=g) l f x,_,_,_,Ow _,?_⟩;obtain⟨b,m,d,u,B,G,o,z⟩:=Dl w s r (wrap .i64 (wrap .u8 ((((l.getD i.toNat 0).toNat:Nat):Int)-48))) (by simp[fm];omega);refine⟨b,m,d,u,B,?_⟩;have e:wrap .i64 (i-1)=i-1:=aB (by omega) (by omega);refine SF (k-1) (by omega) ?_;rw[e];refine⟨by omega,by omega,by omega,?_,z⟩;have q:wrap .i64 (wrap .u8 ((((l.getD i.toNat 0).toNat:Nat):Int)-48))=((jj (l.getD i.toNat 0):Nat):Int):=by
    rw[sr (by omega) (by omega),aB (by omega) (by omega)];unfold jj;omega
   rw[q]at o;have A:(i-1+1).toNat=i.toNat:=by omega
   have v:(i+1).toNat=i.toNat+1:=by omega
   rw[v]at o;rw[q,A,E2 j,OI,map_append];exact o
  ·have f:=dF f;obtain rfl:i = -1:=by omega
   exact⟨a,n,c,rfl,r,s⟩)
 have e:wrap .i64 ((l.length:Int)-1)=(l.length:Int)-1:=aB (by omega) (by omega);refine Hm l h _ ?_;refine L l.length ⟨by rw[e];omega,by rw[e];omega,by rw[e];omega,?_,Ok.refl w⟩;rw[e,show((l.length:Int)-1+1).toNat=l.length by omega,List.drop_length];exact .inl ⟨rfl,rfl⟩
theorem Dc{b:Option Addr}{c:Nat}(N:Rd h 3 (.slice a n c) (x.map iv))(S:Rd h 3 (.slice b m i) (y.map iv))(R:∀i∈x,i<10)(U:∀i∈y,i<10)(O:x.length<=100000)(w:Wf h):
  FW SS 155 [.slice a n c,.slice b m i] h (iO h 3 ((bk fe x y 0 x.length 0).map iv)):=by
 have W:n=x.length:=by have:=N.len;rwa[lM]at this
 have J:∀k,eF fe x y 0 0 k<=1:=MN (λp q c _=>by unfold fe;split<;>simp) x y 0 0 (by omega);have L:=vX a n c b m i (λt k cc r z B g=>k<=x.length/\t=x.length-k/\cc=eF fe x y 0 0 k/\eh h g 3 (.slice r z B) ((bk fe x y 0 k 0).map iv)/\Ok h g) (iO h 3 ((bk fe x y 0 x.length 0).map iv)) (by
  intro t k cc r z B;intros;rename_i g T;obtain⟨X,Z,P,F,o⟩:=T;have V:=J k;have hp:=aZ (by omega) R k;have Y:=aZ (by omega) U k;refine aa (λs=>?_) (λs=>?_)
  ·have s:=dT s;refine(tA (N.ok o) k).mono ?_;rintro _ _ ⟨rfl,rfl⟩;refine⟨_,rfl,(tA (S.ok o) k).mono ?_⟩;rintro _ _ ⟨rfl,rfl⟩;refine⟨_,rfl,?_⟩;have M:wrap .i64 (((x.getD k 0:Nat):Int)-((y.getD k 0:Nat):Int))=((x.getD k 0:Nat):Int)-((y.getD k 0:Nat):Int):=aB (by omega) (by omega);have I:wrap .i64 (((x.getD k 0:Nat):Int)-((y.getD k 0:Nat):Int)-(cc:Int))=((x.getD k 0:Nat):Int)-((y.getD k 0:Nat):Int)-(cc:Int):=aB (by omega) (by omega);have K:wrap .i64 ((k:Int)+1)=((k+1:Nat):Int):=by rw[aB (by omega) (by omega)];omega
   dsimp only;rw[M,I,K];have v:(bk fe x y 0 k 0).length=k:=eQ _ _ _ _ _ _;have f:=hJ fe x y k 0 0;have j:eF fe x y 0 0 (k+1)=(fe (x.getD (0+k) 0) (y.getD (0+k) 0) (eF fe x y 0 0 k)).2:=rfl;rw[Nat.zero_add,<-P]at f j;refine aa (λl=>?_) (λl=>?_)
   ·have l:=dT l;refine⟨_,_,_,Ow _,?_⟩;obtain⟨E,C,A,u,D,Q,e,H⟩:=Dl w o F (wrap .i64 (((x.getD k 0:Nat):Int)-((y.getD k 0:Nat):Int)-(cc:Int)+10)) (by rw[lM,v];omega);refine⟨E,C,A,u,D,?_⟩;have d:fe (x.getD k 0) (y.getD k 0) cc=(x.getD k 0+10-y.getD k 0-cc,1):=by unfold fe;rw[if_pos (by omega)]
    refine oN (b:=1) (t-1) (by omega) ⟨by omega,by omega,by rw[j,d],?_,H⟩;rw[f,d,map_append];have G:wrap .i64 (((x.getD k 0:Nat):Int)-((y.getD k 0:Nat):Int)-(cc:Int)+10)=((x.getD k 0+10-y.getD k 0-cc:Nat):Int):=by rw[aB (by omega) (by omega)];omega
    rw[G]at e⊢;exact e
   ·have l:=dF l;refine⟨_,_,_,Ow _,?_⟩;obtain⟨E,C,A,u,D,Q,e,H⟩:=Dl w o F (((x.getD k 0:Nat):Int)-((y.getD k 0:Nat):Int)-(cc:Int)) (by rw[lM,v];omega);refine⟨E,C,A,u,D,?_⟩;have d:fe (x.getD k 0) (y.getD k 0) cc=(x.getD k 0-y.getD k 0-cc,0):=by unfold fe;rw[if_neg (by omega)]
    refine oN (b:=0) (t-1) (by omega) ⟨by omega,by omega,by rw[j,d],?_,H⟩;rw[f,d,map_append];have G:((x.getD k 0:Nat):Int)-((y.getD k 0:Nat):Int)-(cc:Int)=((x.getD k 0-y.getD k 0-cc:Nat):Int):=by omega
    rw[G]at e⊢;exact e
  ·have s:=dF s;obtain rfl:k=x.length:=by omega
   exact⟨r,z,B,rfl,F,o⟩)
 exact L7 a n c b m i h _ (L x.length (k:=0) (cc:=0) ⟨by omega,by omega,rfl,.inl ⟨rfl,rfl⟩,Ok.refl w⟩)
theorem ND(r:Rd h 5 v (s.map sI)):A3 SS.P 172 9 v h=some (strOf s):=XW AA XV un5 r
theorem Ev{z:Nat}(b:i<z)(c:z<=x.length):((x.take z).drop i).reverse=((x.take z).drop (i+1)).reverse++[x.getD i 0]:=by
 have a:i<(x.take z).length:=by rw[length_take];omega
 rw[drop_eq_getElem_cons a,List.reverse_cons,List.getElem_take,gD,gE (by omega)];rfl
theorem r5{c:Nat}(L:Rd h 3 (.slice a n c) (x.map iv))(P:∀d∈x,d<10)(V:x.length<=100000)(w:Wf h):
  FW SS 153 [.slice a n c] h (λv D=>v=strOf (ag (Num.bv 10 x))/\Ok h D):=by
 have hn:n=x.length:=by have:=L.len;rwa[lM]at this
 have Q:=λ(f:Nat) (hz:f<=x.length) (T:0<x.length->0<f) (W:0<x.length->s3 (x.take f)=ag (Num.bv 10 x))=>vZ a n c (λy i r H R g=> -1<=i/\i<(f:Int)/\y=(i+1).toNat/\eh h g 5 (.slice r H R) ((((x.take f).drop (i+1).toNat).reverse.map eP).map sI)/\Ok h g) (λv D=>v=strOf (ag (Num.bv 10 x))/\Ok h D) (by
  intro y i r H R;intros;rename_i g M;obtain⟨h1,h2,Y,t,J⟩:=M;refine aa (λq=>?_) (λq=>?_)
  ·have q:=dT q;obtain⟨p,K,F⟩:=(L.ok J).at_ sc Vv Hz Gu (k:= .i64) (i:=i) q (by rw[lM];omega);rw[tg x i.toNat (by omega)]at F;refine⟨p,K,_,F,_,_,_,YD _,?_⟩;have N:=aZ (by omega) P i.toNat;obtain⟨b,m,d,u,g6,g7,O,g9⟩:=NC w J t (wrap .u8 (wrap .i64 (48+((x.getD i.toNat 0:Nat):Int)))) (by simp;omega);refine⟨b,m,d,u,g6,?_⟩;have I:wrap .i64 (i-1)=i-1:=aB (by omega) (by omega);refine SF (y-1) (by omega) ?_;rw[I];refine⟨by omega,by omega,by omega,?_,g9⟩;rw[show(i-1+1).toNat=i.toNat by omega,Ev (by omega) hz,map_append,map_append];rw[show(i+1).toNat=i.toNat+1 by omega]at O;have X:sI (eP (x.getD i.toNat 0)) = .int .u8 (wrap .u8 (wrap .i64 (48+((x.getD i.toNat 0:Nat):Int)))):=by
    unfold sI;rw[jm N,aB (by omega) (by omega),sr (by omega) (by omega)]
    first|rfl|(congr 1;omega)
   show eh h _ 5 _ (_++[sI (eP (x.getD i.toNat 0))]);rw[X];exact O
  ·have q:=dF q;obtain rfl:i = -1:=by omega
   have e0:((-1:Int)+1).toNat=0:=rfl;rw[e0,drop_zero]at t;have S:=t.len;simp only[lM,List.length_reverse,length_take]at S;refine aa (λo=>?_) (λo=>?_)
   ·have o:(H:Int)=0:=by simpa using o
    have E:x=[]:=by
     rcases Nat.eq_zero_or_pos x.length with e|e
     ·exact List.eq_nil_of_length_eq_zero e
     ·have:=T e;omega
    subst E;exact⟨by rw[show Num.bv 10 []=0 from rfl,nJ],J⟩
   ·have o:¬(H:Int)=0:=by simpa using o
    have E:0<x.length:=by omega
    have:=ND t.rd;rw[show((x.take f).reverse.map eP)=s3 (x.take f)from rfl,W E]at this;exact⟨_,this,rfl,J⟩)
 have s:∀(f:Nat),eh h h 5 (.slice none 0 0) ((((x.take f).drop ((f:Int)-1+1).toNat).reverse.map eP).map sI):=λf=>by
  rw[show((f:Int)-1+1).toNat=f by omega,List.drop_of_length_le (by rw[length_take];omega)];exact .inl ⟨rfl,rfl⟩
 have L1:=vY a n c (λy z g=>0<=z/\z<=x.length/\y=z.toNat/\(0<x.length->0<z)/\(∀j:Nat,z<=j->x.getD j 0=0)/\g=h) (λv D=>v=strOf (ag (Num.bv 10 x))/\Ok h D) (by
  intro y z;intros;rename_i g M;obtain⟨h1,h2,Y,t,q,rfl⟩:=M;obtain⟨f,rfl⟩:∃f:Nat,z=f:=⟨z.toNat,by omega⟩
  have I:wrap .i64 ((f:Int)-1)=(f:Int)-1:=aB (by omega) (by omega);have B:(1<f->x.getD (f-1) 0≠0)->0<x.length->s3 (x.take f)=ag (Num.bv 10 x):=λZ C=>by
   rw[<-BM (l:=x) (n:=f) (λj U=>q j (by omega))];refine NX (λd N=>P d (List.mem_of_mem_take N)) (λe=>?_) (λA=>?_)
   ·have:=congrArg List.length e;rw[length_take]at this;have h9:min f x.length=0:=this;have:=t C;omega
   ·rw[length_take]at A;have G:=Z (by omega);rw[List.getLast?_eq_getElem?,length_take,List.getElem?_take,if_pos (by omega)];rw[gD,gE (by omega)]at G;rw[show min f x.length-1=f-1 by omega,gE (by omega)];simpa using G
  refine aa (λo=>?_) (λo=>?_)
  ·have o:=dT o;rw[I];obtain⟨p,K,F⟩:=L.at_ sc Vv Hz Gu (k:= .i64) (i:=(f:Int)-1) (by omega) (by rw[lM];omega);rw[tg x _ (by omega),show((f:Int)-1).toNat=f-1 by omega]at F;refine⟨p,K,_,F,aa (λA=>?_) (λA=>?_)⟩
   ·have A:((x.getD (f-1) 0:Nat):Int)=0:=by simpa using A
    refine bW (y-1) (by omega) ⟨by omega,by omega,by omega,λ_=>by omega,λj U=>?_,rfl⟩;rcases lt_or_ge j f with G|G
    ·obtain rfl:j=f-1:=by omega
     omega
    ·exact q j (by omega)
   ·have A:¬((x.getD (f-1) 0:Nat):Int)=0:=by simpa using A
    exact Q f (by omega) (λC=>by have:=t C;omega) (B λ_=>by omega) f ⟨by omega,by omega,by omega,s f,Ok.refl w⟩
  ·have o:=dF o;rw[I];exact Q f (by omega) (λC=>by have:=t C;omega) (B λhh=>by omega) f ⟨by omega,by omega,by omega,s f,Ok.refl w⟩)
 refine L8 a n c h _ (L1 n (z:=(n:Int)) ⟨by omega,by omega,by omega,λC=>by omega,λj U=>?_,rfl⟩);rw[gD,List.getElem?_eq_none (by omega)];rfl
noncomputable def ct:FD:=cF Tryz.f137 [([1,1,1,1,1,0,1,0,0],[0,1,7,8,9]),([1,1,1,1,1,0,1,0,0,1,0,0,1,1,0,0,0],[0,1,7,8,9,10]),([1,1,1,1,1,1,1,0,0,0],[0,1,7,8,11])]
abbrev fH(a b:LB)(k:Nat)(r:LB)(q:OA)(d c:Nat):LV:=[(strOf a),(strOf b),(.slice q d c),(strOf r),(iA k)]
abbrev jB(a b:LB)(k:Nat)(q:OA)(e c:Nat)(r:LB)(d:Int):LV:=[(strOf a),(strOf b),(.slice q e c),(strOf r),(iA k),(.int .u8 d)]
abbrev lT(a b r:LB)(q:OA)(d c:Nat)(z:Nat):LV:=[(strOf a),(strOf b),(.slice q d c),(strOf r),(iA z)]
theorem Qa(a b:LB)(h:ae)(Q:VH)(i:FW SS 136 [(strOf a)] h λg h=>yB g λf=>au (!f) (Q (.tuple ⟨[(strOf []),(strOf []),(.int .i64 1)]⟩) h) (FW SS 136 [(strOf b)] h λd e=>yB d λc=>au (!c) (Q (.tuple ⟨[(strOf []),(strOf []),(.int .i64 1)]⟩) e) (au ((b:LB)==[48]) (Q (.tuple ⟨[(strOf []),(strOf []),(.int .i64 4)]⟩) e) (LL SS ct [1,1,1,1,1,0,1,0,0] (fH a b 0 ([48]) none 0 0) e (KK SS ct [1,1,1,1,1,0,1,0] [] (EE SS ct Q)))))):FW SS 137 [(strOf a),(strOf b)] h Q:=cJ ct Tryz.func137 (ai i)
theorem xx(a b:LB)  (g:Nat->Nat->LB->OA->Nat->Nat->ae->Prop) (Q:VH) (step:∀(i:Nat)(k:Nat)(r:LB)(q:OA)(f e:Nat)(l:Nat->Value)(h:ae),g i k r q f e h->au (decide (((k:Int):Int)<((a:LB).length:Int))) (au ((r:LB)==[48]) (xS (bO SS.P 9 (strOf a) (some (iA k)) (some (.int .i64 (wrap .i64 ((k:Int)+1)))) none h) λc=>LL SS ct [1,1,1,1,1,0,1,0,0,1,0,0,1,1,0,0,0] (jB a b k q f e c 48) h (KK SS ct [1,0,0,1,1,0,0] [1,1,1,1,1,0,1,0,0] (RR ct [1,1,1,1,1,0,1,0,0] (BF (fH a b) g) i (KK SS ct [1,1,1,1,1,0,1,0] [] (EE SS ct Q))))) (xS (bO SS.P 9 (strOf a) (some (iA k)) (some (.int .i64 (wrap .i64 ((k:Int)+1)))) none h) λd=>xS (ax SS.P .add 9 (strOf r) (strOf d)) λc=>LL SS ct [1,1,1,1,1,0,1,0,0,1,0,0,1,1,0,0,0] (jB a b k q f e c 48) h (KK SS ct [1,0,0,1,1,0,0] [1,1,1,1,1,0,1,0,0] (RR ct [1,1,1,1,1,0,1,0,0] (BF (fH a b) g) i (KK SS ct [1,1,1,1,1,0,1,0] [] (EE SS ct Q)))))) (LL SS ct [1,1,1,1,1,1,1,0,0,0] (lT a b r q f e 0) h (KK SS ct [1,1,1,1,1,1,1,0,0] [] (EE SS ct Q)))) (i:Nat) {k:Nat} {r:LB} {q:OA} {f e:Nat} {h:ae} (j:g i k r q f e h):LL SS ct [1,1,1,1,1,0,1,0,0] (fH a b k r q f e) h (KK SS ct [1,1,1,1,1,0,1,0] [] (EE SS ct Q)):=
 FE (fH a b) g (λi k r q f e l h j=>ai (step i k r q f e l h j)) i j
theorem xy(a b:LB)(E:Nat->Nat->LB->OA->Nat->Nat->ae->Prop)(G k:Nat)(q:OA)(D C:Nat)(B:Nat->LB->Int->ae->Prop)(Q:VH)(step:∀(A:Nat) (r:LB) (d:Int) (H:Nat->Value) (h:ae),B A r d h->FW SS 154 [(strOf r),(strOf b)] h λy z=>yI .i64 y λx=>au (decide ((x:Int)>=0)) (FW SS 150 [(strOf r)] z λv w=>yL v λs t u=>FW SS 150 [(strOf b)] w λp r=>yL p λm n o=>FW SS 155 [(.slice s t u),(.slice m n o)] r λj l=>yL j λg h i=>FW SS 153 [(.slice g h i)] l λe f=>yS e λc=>aJ (qR (jB a b k q D C) B) A [(strOf a),(strOf b),(.slice q D C),(strOf c),(iA k),(.int .u8 (wrap .u8 (d+1)))] f) (xR (aF SS.P 172 1 [(0,(.int .u8 d))]) z λ_ g h i=>xE (bF SS.P 172 172 (.slice q D C) (sA (z.next) g h) i) i λc d e _ f=>aJ (BF (fH a b) E) G [(strOf a),(strOf b),(.slice c d e),(strOf r),(.int .i64 (wrap .i64 ((k:Int)+1)))] f))(A:Nat){r:LB}{d:Int}{h:ae}(F:B A r d h):LL SS ct [1,1,1,1,1,0,1,0,0,1,0,0,1,1,0,0,0] (jB a b k q D C r d) h (KK SS ct [1,0,0,1,1,0,0] [1,1,1,1,1,0,1,0,0] (RR ct [1,1,1,1,1,0,1,0,0] (BF (fH a b) E) G (KK SS ct [1,1,1,1,1,0,1,0] [] (EE SS ct Q)))):=
 nB (jB a b k q D C) B (λA r d H h F=>ai (step A r d H h F)) A F
theorem xz(a b:LB)(r:LB)(q:OA)(g j:Nat)(k:Nat->Nat->ae->Prop)(Q:VH)(step:∀(i:Nat) (z:Nat) (m:Nat->Value) (h:ae),k i z h->au (decide (((z:Int):Int)<wrap .i64 ((g:Int)-1))) (iP 172 (.slice q g j) (iA z) λf=>xI .u8 (aj SS.P 5 h (.pointer (some f))) λe=>au (((e:Int)==48)) (aJ (fj (lT a b r q g j) k) i [(strOf a),(strOf b),(.slice q g j),(strOf r),(.int .i64 (wrap .i64 ((z:Int)+1)))] h) (xL (bO SS.P 172 (.slice q g j) (some (iA z)) none none h) λb c d=>xS (A3 SS.P 172 9 (.slice b c d) h) λa=>Q (.tuple ⟨[(strOf a),(strOf r),(.int .i64 0)]⟩) h)) (xL (bO SS.P 172 (.slice q g j) (some (iA z)) none none h) λb c d=>xS (A3 SS.P 172 9 (.slice b c d) h) λa=>Q (.tuple ⟨[(strOf a),(strOf r),(.int .i64 0)]⟩) h))(i:Nat){z:Nat}{h:ae}(l:k i z h):LL SS ct [1,1,1,1,1,1,1,0,0,0] (lT a b r q g j z) h (KK SS ct [1,1,1,1,1,1,1,0,0] [] (EE SS ct Q)):=
 db (lT a b r q g j) k (λi z m h l=>ai (step i z m h l)) i l
noncomputable def pa:FD:=cF Tryz.f118 [([1,1,0,0,0],[0,1])]
abbrev lU  (x y:LB):LV:=[(strOf x),(strOf y)]
theorem Qb(a b:LB)(h:ae)(Q:VH)(i:FW SS 136 [(strOf a)] h λg h=>yB g λf=>au (!f) (Q (.tuple ⟨[(strOf []),(.int .i64 1)]⟩) h) (FW SS 136 [(strOf b)] h λd e=>yB d λc=>au (!c) (Q (.tuple ⟨[(strOf []),(.int .i64 1)]⟩) e) (LL SS pa [1,1,0,0,0] (lU a b) e (KK SS pa [1,1,0,0] [] (EE SS pa Q))))):FW SS 118 [(strOf a),(strOf b)] h Q:=cJ pa Tryz.func118 (ai i)
theorem xD(a b:LB)  (g:Nat->LB->LB->ae->Prop) (Q:VH) (step:∀(f:Nat)(x y:LB)(j:Nat->Value)(h:ae),g f x y h->au (!((y:LB)==[48])) (FW SS 137 [(strOf x),(strOf y)] h λd e=>∃c:LB,∃b:LB,∃a:Int,d=(.tuple ⟨[(strOf c),(strOf b),(.int .i64 a)]⟩)/\aJ (qR lU g) f [(strOf y),(strOf b)] e) (Q (.tuple ⟨[(strOf x),(.int .i64 0)]⟩) h)) (f:Nat) {x y:LB} {h:ae} (i:g f x y h):LL SS pa [1,1,0,0,0] (lU  x y) h (KK SS pa [1,1,0,0] [] (EE SS pa Q)):=
 nB lU g (λf x y j h i=>ai (step f x y j h i)) f i
variable{k:Nat}
theorem Ut(l:List UInt8){h:ae}{a b:Nat}(c:a<=b)(d:b<=l.length):bO SS.P 9 (strOf l) (some (.int .i64 (a:Int))) (some (.int .i64 (b:Int))) none h=some (strOf ((l.drop a).take (b-a))):=oi XV l rfl rfl c d
theorem Tm(h:k<s.length):(s.drop k).take (k+1-k)=[s.getD k 0]:=by
 rw[E2 h,show k+1-k=1 by omega];rfl
theorem fJ(h:n<10^1000):(ag n).length<=1000:=(dH (by omega)).2 h
theorem Lf(h:k<s.length):s[k]?=some (s.getD k 0):=by
 rw[gD,gE h];rfl
def three(a b:List UInt8)(e:Int):Value:= .tuple ⟨[strOf a,strOf b,.int .i64 e]⟩
theorem zw(m n:Nat)(L:m<10^1000)(B:n<10^1000)(U:0<n)(h:ae)(w:Wf h):FW SS 137 [strOf (ag m),strOf (ag n)] h (λv D=>v=three (ag (m/n)) (ag (m%n)) 0/\Ok h D):=by
 have u4:=fJ L;have z8:=fJ B;have z1:=cO m;generalize ha:ag m=a at*;have y5:Num.val a=m:=by rw[<-ha,bt]
 have y7:¬ag n=[48]:=λe=>by have:=bI.1 e;omega
 have L3:=λ(g0:ae) (r:List UInt8) (q:Option Addr) (l x:Nat) (c:List UInt8) (M:eh h g0 5 (.slice q l x) (c.map sI)) (hq:c.all bM=true) (z7:0<c.length) (z9:c.length<=1000) (y4:Num.val c=m/n) (y:r=ag (m%n)) (N:Ok h g0)=>
  xz a (ag n) r q l x (λs z g=>z+1<=c.length/\s=c.length-z/\(∀i,i<z->c[i]?=some 48)/\g=g0) (λv D=>v=three (ag (m/n)) (ag (m%n)) 0/\Ok h D) (by
  intro s z;intros;rename_i g O;obtain⟨h1,h2,h3,rfl⟩:=O;have u2:l=c.length:=by have:=M.len;rwa[lM]at this
  have hw:wrap .i64 ((l:Int)-1)=(l:Int)-1:=aB (by omega) (by omega);have E:wrap .i64 ((z:Int)+1)=((z+1:Nat):Int):=by rw[aB (by omega) (by omega)];omega
  have x3:(z+1<c.length->c[z]?≠some 48)->∃(x4:Option Addr)(x5 x2:Nat),bO SS.P 172 (.slice q l x) (some (.int .i64 (z:Int))) none none g=some (.slice x4 x5 x2)/\∃Y:List UInt8,A3 SS.P 172 9 (.slice x4 x5 x2) g=some (strOf Y)/\(three Y r 0=three (ag (m/n)) (ag (m%n)) 0/\Ok h g):=λhs=>by
   obtain⟨a',n',c',g1,A⟩:=M.from_ AA zz5 (z:=z) (by rw[lM];omega);rw[<-List.map_drop]at A;refine⟨a',n',c',g1,_,ND A,?_,N⟩;rw[H9 hq (by omega) h3 hs,y4,y]
  rw[hw,E];refine aa (λo=>?_) (λo=>?_)
  ·have o:=dT o;obtain⟨p,A,X⟩:=M.rd.at_ AA zz5 un5 ag5 (k:= .i64) (i:=(z:Int)) (by omega) (by rw[lM];omega);have C:(c.map sI).getD ((z:Int)).toNat undef = .int .u8 ((c.getD z 0).toNat:Nat):=by
    rw[Int.toNat_natCast,gD,getElem?_map,Lf (by omega)];rfl
   rw[C]at X;refine⟨p,A,_,X,aa (λf=>?_) (λf=>?_)⟩
   ·have f:=F1.1 f;refine bW (s-1) (by omega) ⟨by omega,by omega,λi O=>?_,rfl⟩;rcases lt_or_ge i z with t|t
    ·exact h3 i t
    ·obtain rfl:i=z:=by omega
     rw[Lf (by omega),f]
   ·exact x3 λ_ e=>by
     rw[Lf (by omega)]at e;rw[F1.2 (oI e)]at f;cases f
  ·have o:=dF o;exact x3 λhh=>by omega)
 have L1:=xx a (ag n) (λs k r q l x g=>k<=a.length/\s=a.length-k/\r=ag (Num.val (a.take k)%n)/\(∃c:List UInt8,c.length=k/\c.all bM=true/\Num.val c=Num.val (a.take k)/n/\eh h g 5 (.slice q l x) (c.map sI))/\Ok h g) (λv D=>v=three (ag (m/n)) (ag (m%n)) 0/\Ok h D) (by
  intro s k r q l x;intros;rename_i g O;obtain⟨h1,h2,y,⟨c,y2,x9,G,M⟩,N⟩:=O;refine aa (λo=>?_) (λo=>?_)
  ·have o:=dT o;have F:k<a.length:=by omega
   have S:=Cb z1 F;have y6:=qT S;have y0:=mod_lt (Num.val (a.take k)) U;have E:wrap .i64 ((k:Int)+1)=((k+1:Nat):Int):=by rw[aB (by omega) (by omega)];omega
   have x7:Num.val (a.take (k+1))=10*Num.val (a.take k)+jj (a.getD k 0):=sD (Lf F);have K:=Gi (r:=Num.val (a.take k)%n) S;have L2:=xy a (ag n) (λs k r q l x g=>k<=a.length/\s=a.length-k/\r=ag (Num.val (a.take k)%n)/\(∃c:List UInt8,c.length=k/\c.all bM=true/\Num.val c=Num.val (a.take k)/n/\eh h g 5 (.slice q l x) (c.map sI))/\Ok h g) s k q l x
    (λx0 r d A=>∃j:Nat,d=48+(j:Int)/\j*n<=10*(Num.val (a.take k)%n)+jj (a.getD k 0)/\r=ag (10*(Num.val (a.take k)%n)+jj (a.getD k 0)-j*n)/\x0=10*(Num.val (a.take k)%n)+jj (a.getD k 0)-j*n/\Ok g A) (λv D=>v=three (ag (m/n)) (ag (m%n)) 0/\Ok h D) (by
    intro x0 r2 d;intros;rename_i A z4;obtain⟨j,rfl,x6,rfl,u3,J⟩:=z4;have P:=HV U y6 x6;generalize hR:10*(Num.val (a.take k)%n)+jj (a.getD k 0)=R at*;have z6:(ag (R-j*n)).length<=1001:=by
     have z5:=oC n;refine Nat.le_trans ((dH (k:=(ag n).length+1) (by omega)).2 ?_) (by omega);rw[Nat.pow_succ];generalize 10^(ag n).length=T at z5;clear B L;omega
    have y9:=N.trans J;refine(qm (R-j*n) n (by omega) (by omega) A y9.wf).mono ?_;rintro _ X ⟨rfl,H⟩;refine⟨_,rfl,aa (λf=>?_) (λf=>?_)⟩
    ·have f:=EC.1 (dT f);refine(r4 _ (cO _) (by omega) X H.wf).mono ?_;rintro _ g4 ⟨a1,n1,c1,rfl,o1,x8⟩;refine⟨a1,n1,c1,rfl,(r4 _ (cO _) (by omega) g4 x8.wf).mono ?_⟩;rintro _ g5 ⟨a2,n2,c2,rfl,o2,Q⟩;refine⟨a2,n2,c2,rfl,(Dc (o1.rd.ok Q) o2.rd (l9 (cO _)) (l9 (cO _)) (by rw[kT];omega) Q.wf).mono ?_⟩;rintro _ g6 ⟨a3,n3,c3,rfl,o3,x1⟩;refine⟨a3,n3,c3,rfl,(r5 o3.rd (EF (l9 (cO _)) (l9 (cO _)) _ _ _ (by omega)) (by rw[eQ,kT];omega) x1.wf).mono ?_⟩;rintro _ g7 ⟨rfl,z0⟩;have z2:(ag n).length<=(ag (R-j*n)).length:=by
      rcases lt_or_ge (ag (R-j*n)).length (ag n).length with t|t
      ·have:=lH t;omega
      ·exact t
     have Z:=ED (l9 (cO (R-j*n))) (l9 (cO n)) (by rw[kT,kT];exact z2) (by rw[fR,fR,bt,bt];exact f);rw[fR,fR,bt,bt]at Z;rw[Z];refine⟨_,rfl,?_⟩;have y3:wrap .u8 (48+(j:Int)+1)=48+((j+1:Nat):Int):=by rw[sr (by omega) (by omega)];omega
     rw[y3];have C:(j+1)*n=j*n+n:=Nat.succ_mul j n;exact iT (R-j*n-n) (by clear B L;omega) ⟨j+1,rfl,by rw[C];clear B L;omega,by rw[C,Nat.sub_sub],by rw[C,Nat.sub_sub],((((J.trans H).trans x8).trans Q).trans x1).trans z0⟩
    ·have f:¬(n<=R-j*n):=λe=>by have:=dF f;exact this (EC.2 e)
     have W:=HW (V:=Num.val (a.take k)) (d:=jj (a.getD k 0)) U (k:=j) (by rw[hR];exact x6) (by rw[hR,Nat.succ_mul];clear B L;omega);rw[hR]at W;refine⟨_,_,_,YD _,?_⟩;have y8:=N.trans (J.trans H);obtain⟨b,mm,dd,u,g6,g7,g8,g9⟩:=NC w y8 (M.ok (J.trans H)) (48+(j:Int)) (by rw[lM];omega);refine⟨b,mm,dd,u,g6,?_⟩;rw[E];refine oN (s-1) (by omega) ⟨by omega,by omega,?_,⟨c++[eP j],by simp[y2],?_,?_,?_⟩,g9⟩
     ·rw[x7,W.2]
     ·rw[List.all_append,x9];simp[sT P]
     ·rw[hZ,G,BR P,x7,W.1]
     ·rw[map_append];have C:sI (eP j) = .int .u8 (48+(j:Int)):=by
       unfold sI;rw[jm P];rfl
      show eh h _ 5 _ (_++[sI (eP j)]);rw[C];exact g8)
   have I:∀r',r'=ag (10*(Num.val (a.take k)%n)+jj (a.getD k 0))->∃j:Nat,(48:Int)=48+(j:Int)/\j*n<=10*(Num.val (a.take k)%n)+jj (a.getD k 0)/\r'=ag (10*(Num.val (a.take k)%n)+jj (a.getD k 0)-j*n)/\10*(Num.val (a.take k)%n)+jj (a.getD k 0)=10*(Num.val (a.take k)%n)+jj (a.getD k 0)-j*n/\Ok g g:=
    λr' e=>⟨0,rfl,by rw[Nat.zero_mul];exact Nat.zero_le _,by rw[Nat.zero_mul,Nat.sub_zero];exact e,by rw[Nat.zero_mul,Nat.sub_zero],Ok.refl N.wf⟩
   rw[E];refine aa (λf=>?_) (λf=>?_)
   ·have f:r=[48]:=by simpa using f
    refine⟨_,Ut a (by omega) (by omega),?_⟩;rw[Tm F];refine L2 _ (I _ ?_);rw[<-K,if_pos (by rw[<-y];exact f)]
   ·have f:¬r=[48]:=by simpa using f
    refine⟨_,Ut a (by omega) (by omega),?_⟩;rw[Tm F];have u1:r.length<=1000:=by
     rw[y];exact fJ (Nat.lt_trans y0 B)
    refine⟨_,re r [a.getD k 0] (by simp;omega),?_⟩;refine L2 _ (I _ ?_);rw[<-K,if_neg (by rw[<-y];exact f),y]
  ·have o:=dF o;obtain rfl:k=a.length:=by omega
   rw[List.take_length]at G y;rw[y5]at G y;have u0:0<a.length:=by rw[<-ha];exact nq m
   exact L3 g r q l x c M x9 (by omega) (by omega) G y N c.length (z:=0) ⟨by omega,by omega,λi O=>by omega,rfl⟩)
 refine Qa a (ag n) h _ ?_;refine(dm a h).mono ?_;rintro _ _ ⟨rfl,rfl⟩;have z3:Num.valid a=true:=by rw[<-ha];exact ee.2 L
 have y1:Num.valid (ag n)=true:=ee.2 B;refine⟨_,rfl,aa (λf=>?_) (λf=>?_)⟩
 ·rw[z3]at f;cases f
 ·refine(dm (ag n) _).mono ?_;rintro _ _ ⟨rfl,rfl⟩;refine⟨_,rfl,aa (λt=>?_) (λt=>aa (λh8=>?_) (λh8=>?_))⟩
  ·rw[y1]at t;cases t
  ·exact absurd (by simpa using h8) y7
  ·exact L1 a.length (k:=0) ⟨by omega,by omega,by rw[take_zero];simp[jN,nJ],⟨[],rfl,rfl,by rw[take_zero];simp[jN],.inl ⟨rfl,rfl⟩⟩,Ok.refl w⟩
def two(a:List UInt8)(e:Int):Value:= .tuple ⟨[strOf a,.int .i64 e]⟩
def AT(a b:List UInt8):Value:=if Num.valid a=true/\Num.valid b=true then two (ag (Nat.gcd (Num.val a) (Num.val b))) 0 else two [] 1
theorem Fy(a b:List UInt8)(h:ae)(w:Wf h):FW SS 118 [strOf a,strOf b] h (λv s=>v=AT a b/\Ok h s):=by
 refine Qb a b h _ ?_;refine(dm a h).mono ?_;rintro _ _ ⟨rfl,rfl⟩;refine⟨_,rfl,aa (λi=>?_) (λi=>?_)⟩
 ·refine⟨?_,Ok.refl w⟩;unfold AT;rw[if_neg (λe=>by rw[e.1]at i;cases i)];rfl
 ·refine(dm b _).mono ?_;rintro _ _ ⟨rfl,rfl⟩;refine⟨_,rfl,aa (λf=>?_) (λf=>?_)⟩
  ·refine⟨?_,Ok.refl w⟩;unfold AT;rw[if_neg (λe=>by rw[e.2]at f;cases f)];rfl
  ·have o:Num.valid a=true:=by simpa using i
   have k:Num.valid b=true:=by simpa using f
   obtain⟨m,rfl,C,_⟩:=cn o;obtain⟨n,rfl,B,_⟩:=cn k;rename_i u _ _;have L:=xD (ag m) (ag n) (λc x y g=>∃p q:Nat,x=ag p/\y=ag q/\p<10^1000/\q<10^1000/\Nat.gcd p q=Nat.gcd m n/\c=q/\Ok u g) (λv s=>v=AT (ag m) (ag n)/\Ok u s) (by
    intro c x y;intros;rename_i g D;obtain⟨p,q,rfl,rfl,F,r,A,rfl,t⟩:=D;refine aa (λd=>?_) (λd=>?_)
    ·have d:¬ag c=[48]:=by simpa using d
     have l:0<c:=Nat.pos_of_ne_zero λe=>d (bI.2 e);refine(zw p c F r l g t.wf).mono ?_;rintro _ G ⟨rfl,z⟩;refine⟨_,_,_,rfl,?_⟩;have j:=mod_lt p l;exact iT (p%c) j ⟨c,p%c,rfl,rfl,r,Nat.lt_trans j r,by rw[<-KC];exact A,rfl,t.trans z⟩
    ·have d:ag c=[48]:=by simpa using d
     have E:=bI.1 d;subst E;refine⟨?_,t⟩;unfold AT;rw[if_pos ⟨o,k⟩,bt,bt,<-A,Nat.gcd_zero_right];rfl)
   exact L n ⟨m,n,rfl,rfl,C,B,rfl,rfl,Ok.refl w⟩
noncomputable def mq:FD:=cF Tryz.f174 [([1,0,0,0],[0])]
abbrev nu  (r:OA) (m d:Nat):LV:=[(.slice r m d)]
theorem CQ(a:OA)(n c:Nat)(h:ae)(Q:VH)(b:LL SS mq [1,0,0,0] [(.slice a n c)] h (KK SS mq [1,0,0] [] (EE SS mq Q))):FW SS 174 [(.slice a n c)] h Q:=cJ mq Tryz.func174 (ai b)
theorem oV(a:OA)(n c:Nat)  (i:Nat->OA->Nat->Nat->ae->Prop) (Q:VH) (step:∀(g:Nat)(r:OA)(m d:Nat)(k:Nat->Value)(h:ae),i g r m d h->au (decide (((m:Int):Int)>0)) (iP 177 (.slice r m d) (.int .i64 (wrap .i64 ((m:Int)-1))) λf=>xI .u64 (aj SS.P 150 h (.pointer (some f))) λe=>au (((e:Int)==0)) (xL (bO SS.P 177 (.slice r m d) none (some (.int .i64 (wrap .i64 ((m:Int)-1)))) none h) λa b c=>aJ (Y6 nu i) g [(.slice a b c)] h) (Q (.slice r m d) h)) (Q (.slice r m d) h)) (g:Nat) {r:OA} {m d:Nat} {h:ae} (j:i g r m d h):LL SS mq [1,0,0,0] (nu  r m d) h (KK SS mq [1,0,0] [] (EE SS mq Q)):=
 Uf nu i (λg r m d k h j=>ai (step g r m d k h j)) g j
noncomputable def cQ:FD:=cF Tryz.f172 [([1,1,0,0,0],[0,3]),([1,1,0,0,0,1,0,1,1,0,1,0,0],[0,3,4,5,6])]
abbrev fZ  (s:LB) (r:OA) (a b:Nat):LV:=[(strOf s),(.slice r a b)]
abbrev iU(s:LB)(r:OA)(b c:Nat)(a:Int)(i v:Int):LV:=[(strOf s),(.slice r b c),(.int .i64 a),(.int .u64 v),(.int .i64 i)]
theorem GV(l:LB)(h:ae)(Q:VH)(a:LL SS cQ [1,1,0,0,0] [(strOf l),nA] h (KK SS cQ [1,1,0,0] [] (EE SS cQ Q))):FW SS 172 [(strOf l)] h Q:=cJ cQ Tryz.func172 (ai a)
theorem ti(l:LB)  (j:Nat->LB->OA->Nat->Nat->ae->Prop) (Q:VH) (step:∀(i:Nat)(s:LB)(r:OA)(f g:Nat)(m:Nat->Value)(h:ae),j i s r f g h->au (decide ((((s:LB).length:Int):Int)>0)) (xI .i64 (oS true [(.int .i64 0),(.int .i64 (wrap .i64 (((s:LB).length:Int)-9)))]) λa=>LL SS cQ [1,1,0,0,0,1,0,1,1,0,1,0,0] (iU s r f g a a 0) h (KK SS cQ [1,0,1,1,0,1,0] [1,1,0,0,0] (RR cQ [1,1,0,0,0] (Ys fZ j) i (KK SS cQ [1,1,0,0] [] (EE SS cQ Q))))) (FW SS 174 [(.slice r f g)] h λd e=>yL d λa b c=>Q (.slice a b c) e)) (i:Nat) {s:LB} {r:OA} {f g:Nat} {h:ae} (k:j i s r f g h):LL SS cQ [1,1,0,0,0] (fZ  s r f g) h (KK SS cQ [1,1,0,0] [] (EE SS cQ Q)):=
 Ug fZ j (λi s r f g m h k=>ai (step i s r f g m h k)) i k
theorem tj(l:LB)(p:Nat->LB->OA->Nat->Nat->ae->Prop)(t:Nat)(s:LB)(r:OA)(n o:Nat)(m:Int)(k:Nat->Int->Int->ae->Prop)(Q:VH)(step:∀(j:Nat) (i v:Int) (u:Nat->Value) (h:ae),k j i v h->au (decide ((i:Int)<((s:LB).length:Int))) (xI .u8 (bL SS.P 9 (strOf s) (.int .i64 i)) λa=>aJ (qR (iU s r n o m) k) j [(strOf s),(.slice r n o),(.int .i64 m),(.int .u64 (wrap .u64 (wrap .u64 (10*v)+wrap .u64 (wrap .u8 (a-48))))),(.int .i64 (wrap .i64 (i+1)))] h) (xR (aF SS.P 177 1 [(0,(.int .u64 v))]) h λ_ f g i=>xE (bF SS.P 177 177 (.slice r n o) (sA (h.next) f g) i) i λb c d _ e=>xS (bO SS.P 9 (strOf s) none (some (.int .i64 m)) none e) λa=>aJ (Ys fZ p) t [(strOf a),(.slice b c d)] e))(j:Nat){i v:Int}{h:ae}(q:k j i v h):LL SS cQ [1,1,0,0,0,1,0,1,1,0,1,0,0] (iU s r n o m i v) h (KK SS cQ [1,0,1,1,0,1,0] [1,1,0,0,0] (RR cQ [1,1,0,0,0] (Ys fZ p) t (KK SS cQ [1,1,0,0] [] (EE SS cQ Q)))):=
 nB (iU s r n o m) k (λj i v u h q=>ai (step j i v u h q)) j q
noncomputable def Z2:FD:=cF Tryz.f206 []
theorem Xc(x:Int)(h:ae)(Q:VH)(a:Q (.bool (((x:Int) !=x))) h):FW SS 206 [(.int .u64 x)] h Q:=cJ Z2 Tryz.func206 (ai a)
noncomputable def ZG:FD:=cF Tryz.f196 []
theorem Wn(x y:Int)(h:ae)(Q:VH)(g:FW SS 206 [(.int .u64 x)] h λe f=>yB e λd=>FW SS 206 [(.int .u64 y)] f λb c=>yB b λa=>au d (au a (Q (.int .i64 0) c) (Q (.int .i64 (-1)) c)) (au a (Q (.int .i64 1) c) (au (decide ((x:Int)<y)) (Q (.int .i64 (-1)) c) (au (decide ((x:Int)>y)) (Q (.int .i64 1) c) (Q (.int .i64 0) c))))):FW SS 196 [(.int .u64 x),(.int .u64 y)] h Q:=cJ ZG Tryz.func196 (ai g)
noncomputable def Z1:FD:=cF Tryz.f165 []
theorem Xb(x:Int)(h:ae)(Q:VH)(a:Q (.bool (((x:Int) !=x))) h):FW SS 165 [(.int .i64 x)] h Q:=cJ Z1 Tryz.func165 (ai a)
noncomputable def ZE:FD:=cF Tryz.f195 []
theorem Wk(x y:Int)(h:ae)(Q:VH)(g:FW SS 165 [(.int .i64 x)] h λe f=>yB e λd=>FW SS 165 [(.int .i64 y)] f λb c=>yB b λa=>au d (au a (Q (.int .i64 0) c) (Q (.int .i64 (-1)) c)) (au a (Q (.int .i64 1) c) (au (decide ((x:Int)<y)) (Q (.int .i64 (-1)) c) (au (decide ((x:Int)>y)) (Q (.int .i64 1) c) (Q (.int .i64 0) c))))):FW SS 195 [(.int .i64 x),(.int .i64 y)] h Q:=cJ ZE Tryz.func195 (ai g)
noncomputable def il:FD:=cF Tryz.f186 [([1,1,0,1,0,0],[0,1,18,19])]
abbrev im(a:OA)(n c:Nat)(b:OA)(m d:Nat)(i:Nat):LV:=[(.slice a n c),(.slice b m d),(iA n),(iA i)]
theorem Ek(a:OA)(n c:Nat)(b:OA)(m d:Nat)(h:ae)(Q:VH)(e:au ((((n:Int):Int) !=(m:Int))) (FW SS 195 [(iA n),(iA m)] h λb c=>yI .i64 b λa=>Q (.int .i64 a) c) (LL SS il [1,1,0,1,0,0] (im a n c b m d 0) h (KK SS il [1,1,0,1,0] [] (EE SS il Q)))):FW SS 186 [(.slice a n c),(.slice b m d)] h Q:=cJ il Tryz.func186 (ai e)
theorem sK(a:OA)(n c:Nat)(b:OA)(m d:Nat)  (q:Nat->Nat->ae->Prop) (Q:VH) (step:∀(p:Nat)(i:Nat)(s:Nat->Value)(h:ae),q p i h->au (decide (((i:Int):Int)<(n:Int))) (xP (aA SS.P 177 (.slice a n c) (.int .i64 (wrap .i64 (wrap .i64 ((n:Int)-1)-(i:Int))))) λo=>xI .u64 (aj SS.P 150 (room h 18) (.pointer (some o))) λl=>xP (aA SS.P 177 (.slice b m d) (.int .i64 (wrap .i64 (wrap .i64 ((n:Int)-1)-(i:Int))))) λk=>xI .u64 (aj SS.P 150 (room h 18) (.pointer (some k))) λj=>FW SS 196 [(.int .u64 l),(.int .u64 j)] (room h 18) λf g=>yI .i64 f λe=>au (((e:Int) !=0)) (Q (.int .i64 e) g) (aJ (fj (im a n c b m d) q) p [(.slice a n c),(.slice b m d),(iA n),(.int .i64 (wrap .i64 ((i:Int)+1)))] g)) (Q (.int .i64 0) h)) (p:Nat) {i:Nat} {h:ae} (r:q p i h):LL SS il [1,1,0,1,0,0] (im a n c b m d i) h (KK SS il [1,1,0,1,0] [] (EE SS il Q)):=
 db (im a n c b m d) q (λp i s h r=>ai (step p i s h r)) p r
noncomputable def Qo:FD:=cF Tryz.f213 []
theorem Me(x y z:Int)(p:OA)(h:ae)(Q:VH)(d:xI .u64 (aj SS.P 150 h (.pointer p)) λc=>xI .u64 (ax SS.P .rem 150 (.int .u64 (wrap .u64 (wrap .u64 (x*c)+z))) (.int .u64 1000000000)) λb=>xI .u64 (ax SS.P .quo 150 (.int .u64 (wrap .u64 (wrap .u64 (x*c)+z))) (.int .u64 1000000000)) λa=>Q (.tuple ⟨[(.int .u64 b),(.int .u64 a)]⟩) h):FW SS 213 [(.int .u64 x),(.int .u64 y),(.int .u64 z),(.pointer p)] h Q:=cJ Qo Tryz.func213 (ai d)
noncomputable def ig:FD:=cF Tryz.f193 [([1,1,1,0,1,0,0],[0,1,2,7,8,18,19])]
abbrev eI(a:OA)(n c:Nat)(p:OA)(b:Int)(i:Nat)(cy:Int)(r:OA)(d e:Nat):LV:=[(.slice a n c),nA,(.func (.func 213) ⟨[]⟩ ⟨[(.pointer p)]⟩),(.slice r d e),(.int .u64 cy),(.int .i64 b),(iA i)]
theorem Ec(a:OA)(n c:Nat)(p:OA)(h:ae)(Q:VH)(d:xI .i64 (oS true [(iA n),(.int .i64 0)]) λb=>LL SS ig [1,1,1,0,1,0,0] [(.slice a n c),nA,(.func (.func 213) ⟨[]⟩ ⟨[(.pointer p)]⟩),nA,(.int .u64 0),(.int .i64 (wrap .i64 (b+1))),(.int .i64 0)] h (KK SS ig [1,1,1,0,1,0] [] (EE SS ig Q))):FW SS 193 [(.slice a n c),nA,(.func (.func 213) ⟨[]⟩ ⟨[(.pointer p)]⟩)] h Q:=cJ ig Tryz.func193 (ai d)
theorem sJ(a:OA)(n c:Nat)(p:OA)(v:Int)(w:Nat->Nat->Int->OA->Nat->Nat->ae->Prop)(Q:VH)(step:∀(z:Nat) (i:Nat) (cy:Int) (r:OA) (x y:Nat) (B:Nat->Value) (h:ae),w z i cy r x y h->au (decide (((i:Int):Int)<v)) (au (decide (((i:Int):Int)<(n:Int))) (iP 177 (.slice a n c) (iA i) λu=>xI .u64 (aj SS.P 150 h (.pointer (some u))) λt=>au (decide (((i:Int):Int)<0)) (iP 177 nA (iA i) λs=>xI .u64 (aj SS.P 150 h (.pointer (some s))) λq=>FW SS 213 [(.int .u64 t),(.int .u64 q),(.int .u64 cy),(.pointer p)] h λm o=>∃l:Int,∃k:Int,m=(.tuple ⟨[(.int .u64 l),(.int .u64 k)]⟩)/\xR (aF SS.P 177 1 [(0,(.int .u64 l))]) o λ_ g h j=>xE (bF SS.P 177 177 (.slice r x y) (sA (o.next) g h) j) j λb d e _ f=>aJ (BF (eI a n c p v) w) z [(.slice a n c),nA,(.func (.func 213) ⟨[]⟩ ⟨[(.pointer p)]⟩),(.slice b d e),(.int .u64 k),(.int .i64 v),(.int .i64 (wrap .i64 ((i:Int)+1)))] f) (FW SS 213 [(.int .u64 t),(.int .u64 0),(.int .u64 cy),(.pointer p)] h λm o=>∃l:Int,∃k:Int,m=(.tuple ⟨[(.int .u64 l),(.int .u64 k)]⟩)/\xR (aF SS.P 177 1 [(0,(.int .u64 l))]) o λ_ g h j=>xE (bF SS.P 177 177 (.slice r x y) (sA (o.next) g h) j) j λb d e _ f=>aJ (BF (eI a n c p v) w) z [(.slice a n c),nA,(.func (.func 213) ⟨[]⟩ ⟨[(.pointer p)]⟩),(.slice b d e),(.int .u64 k),(.int .i64 v),(.int .i64 (wrap .i64 ((i:Int)+1)))] f)) (au (decide (((i:Int):Int)<0)) (iP 177 nA (iA i) λs=>xI .u64 (aj SS.P 150 h (.pointer (some s))) λq=>FW SS 213 [(.int .u64 0),(.int .u64 q),(.int .u64 cy),(.pointer p)] h λm o=>∃l:Int,∃k:Int,m=(.tuple ⟨[(.int .u64 l),(.int .u64 k)]⟩)/\xR (aF SS.P 177 1 [(0,(.int .u64 l))]) o λ_ g h j=>xE (bF SS.P 177 177 (.slice r x y) (sA (o.next) g h) j) j λb d e _ f=>aJ (BF (eI a n c p v) w) z [(.slice a n c),nA,(.func (.func 213) ⟨[]⟩ ⟨[(.pointer p)]⟩),(.slice b d e),(.int .u64 k),(.int .i64 v),(.int .i64 (wrap .i64 ((i:Int)+1)))] f) (FW SS 213 [(.int .u64 0),(.int .u64 0),(.int .u64 cy),(.pointer p)] h λm o=>∃l:Int,∃k:Int,m=(.tuple ⟨[(.int .u64 l),(.int .u64 k)]⟩)/\xR (aF SS.P 177 1 [(0,(.int .u64 l))]) o λ_ g h j=>xE (bF SS.P 177 177 (.slice r x y) (sA (o.next) g h) j) j λb d e _ f=>aJ (BF (eI a n c p v) w) z [(.slice a n c),nA,(.func (.func 213) ⟨[]⟩ ⟨[(.pointer p)]⟩),(.slice b d e),(.int .u64 k),(.int .i64 v),(.int .i64 (wrap .i64 ((i:Int)+1)))] f))) (FW SS 174 [(.slice r x y)] h λd e=>yL d λa b c=>Q (.slice a b c) e))(z:Nat){i:Nat}{cy:Int}{r:OA}{x y:Nat}{h:ae}(A:w z i cy r x y h):LL SS ig [1,1,1,0,1,0,0] (eI a n c p v i cy r x y) h (KK SS ig [1,1,1,0,1,0] [] (EE SS ig Q)):=
 FE (eI a n c p v) w (λz i cy r x y B h A=>ai (step z i cy r x y B h A)) z A
noncomputable def Jl:FD:=cF Tryz.f202 []
theorem GY(a:OA)(n c:Nat)(k:Int)(h:ae)(Q:VH)(g:xN (eV SS.P 150 (.int .u64 k)) h λ_ f=>FW SS 193 [(.slice a n c),nA,(.func (.func 213) ⟨[]⟩ ⟨[(pA (h.next))]⟩)] f λd e=>yL d λa b c=>Q (.slice a b c) e):FW SS 202 [(.slice a n c),(.int .u64 k)] h Q:=cJ Jl Tryz.func202 (ai g)
def uv(d:Nat):Value:= .int .u64 (d:Int)
theorem AD:SS.P.underlying 177=some (.slice 150):=by kernel_rfl
theorem NI:SS.P.underlying 150=some (.int .u64):=by kernel_rfl
theorem DV:aE SS.P 150=some 1:=by kernel_rfl
theorem MS:Go.Ab.isAgg SS.P 150=false:=by kernel_rfl
noncomputable def TZ:TypeInfo:=(eN SS.P 150).getD default
theorem JG:eN SS.P 150=some TZ:=by kernel_rfl
theorem C8:TZ.size=1:=by kernel_rfl
theorem Au:TZ.bytes=8:=by kernel_rfl
theorem sE(z:Int):aF SS.P 177 1 [(0,.int .u64 z)]=some (.cells [.int .u64 z] 150 1 true,my 1 1):=by kernel_rfl
theorem lY(d:Wf g)(e:Ok g h){v:Value}{a:List Value}(o:eh g h 150 v a)(z:Int)(f:a.length<=100000):
  ∃(b:Option Addr)(n c:Nat)(u:dJ),bF SS.P 177 177 v (.slice (some ⟨h.next,0,none⟩) 1 1) (h.push (.cells [.int .u64 z] 150 1 true))=some (.slice b n c,u)/\n=a.length+1/\eh g (u.app (h.push (.cells [.int .u64 z] 150 1 true))) 150 (.slice b n c) (a++[.int .u64 z])/\Ok g (u.app (h.push (.cells [.int .u64 z] 150 1 true))):=
 eh.snoc AD JG C8 d e o rfl (by rw[Au];omega) (by omega)
theorem Ta(l:List Nat)(i:Nat)(h:i<l.length):(l.map uv).getD i undef = .int .u64 (l.getD i 0:Nat):=by
 simp[gD,getElem?_map,gE h,uv]
theorem EP(r:Rd h 150 v (x.map uv)){i:Int}(d:0<=i)(b:i<x.length):
  ∃p:Addr,aA SS.P 177 v (.int .i64 i)=some (.pointer (some p))/\aj SS.P 150 h (.pointer (some p))=some (.int .u64 (x.getD i.toNat 0:Nat)):=by
 obtain⟨p,c,a⟩:=r.at_ AD DV NI MS (k:= .i64) d (by rw[lM];exact b);rw[Ta x _ (by omega)]at a;exact⟨p,c,a⟩
theorem rQ{c:Nat}(o:eh g h 150 (.slice a n c) (x.map uv))(D:x.length<=100000):
  FW SS 174 [.slice a n c] h (λv u=>∃k f e,v = .slice k f e/\eh g h 150 (.slice k f e) ((dL x).map uv)/\u=h):=by
 have A:n=x.length:=by have:=o.len;rwa[lM]at this
 have L:=oV a n c (λb r m d J=>m<=x.length/\b=m/\eh g h 150 (.slice r m d) ((x.take m).map uv)/\dL x=dL (x.take m)/\J=h) (λv u=>∃k f e,v = .slice k f e/\eh g h 150 (.slice k f e) ((dL x).map uv)/\u=h) (by
  intro b r m d;intros;rename_i J I;obtain⟨K,rfl,t,w,rfl⟩:=I;have H:wrap .i64 ((b:Int)-1)=(b:Int)-1:=aB (by omega) (by omega);rw[H];have s:b≠0->x.take b=x.take (b-1)++[x.getD (b-1) 0]:=λs=>by
   obtain⟨j,rfl⟩:∃j,b=j+1:=⟨b-1,by omega⟩
   rw[List.take_succ_eq_append_getElem (by omega),Nat.add_sub_cancel,gD,gE (by omega)];rfl
  refine aa (λq=>?_) (λq=>?_)
  ·have q:=dT q;obtain⟨p,F,C⟩:=EP t.rd (i:=(b:Int)-1) (by omega) (by rw[length_take];omega);have E:(x.take b).getD ((b:Int)-1).toNat 0=x.getD (b-1) 0:=by
    rw[show((b:Int)-1).toNat=b-1 by omega,gD,List.getElem?_take,if_pos (by omega),gD]
   rw[E]at C;refine⟨p,F,_,C,aa (λl=>?_) (λl=>?_)⟩
   ·have l:((x.getD (b-1) 0:Nat):Int)=0:=by simpa using l
    have l:x.getD (b-1) 0=0:=by omega
    obtain⟨k,f,e,G,y⟩:=t.upto AD DV (z:=b-1) (by rw[lM,length_take];omega) (by rw[lM,length_take];omega);rw[show((b:Int)-1)=((b-1:Nat):Int) by omega];have B:f=b-1:=by have:=y.len;rw[length_take,lM,length_take]at this;omega
    subst B;refine⟨k,_,e,G,I0 (b-1) (by omega) ⟨by omega,rfl,?_,?_,rfl⟩⟩
    ·rw[<-List.map_take,List.take_take,Nat.min_eq_left (by omega)]at y;exact y
    ·rw[w,s (by omega),l,iR]
   ·have l:¬((x.getD (b-1) 0:Nat):Int)=0:=by simpa using l
    refine⟨r,b,d,rfl,?_,rfl⟩;rw[w,s (by omega),jL _ (by omega),<-s (by omega)];exact t
  ·have q:=dF q;obtain rfl:b=0:=by omega
   refine⟨r,0,d,rfl,?_,rfl⟩;rw[w];exact t)
 exact CQ a n c h _ (L n ⟨by omega,rfl,by rw[show x.take n=x by rw[A,List.take_length]];exact o,by rw[show x.take n=x by rw[A,List.take_length]],rfl⟩)
theorem Ew{l:List UInt8}(h:i<l.length):Num.val (l.take (i+1))=10*Num.val (l.take i)+jj (l.getD i 0):=sD (Lf h)
theorem Qv(l:List UInt8){h:ae}{b:Nat}(c:b<=l.length):bO SS.P 9 (strOf l) none (some (.int .i64 (b:Int))) none h=some (strOf (l.take b)):=oi (a:=0) XV l rfl rfl (by omega) c
theorem Iu(b:n=s.length-9)(a:0<s.length):Num.val s=Num.val (s.drop n)+10^(s.length-n)*Num.val (s.take n):=by
 have:=jM (s.take n) (s.drop n);rw[List.take_append_drop,length_drop,Nat.mul_comm]at this;omega
theorem rP(l:List UInt8)(hd:l.all bM=true)(k:l.length<=10000)(h:ae)(w:Wf h):FW SS 172 [strOf l] h (iO h 150 ((aW 1000000000 (Num.val l)).map uv)):=by
 have Y:=ti l (λA s r o t g=>A=s.length/\s.all bM=true/\s.length<=10000/\Ok h g/\∃a:List Nat,(∀d∈a,d<1000000000)/\a.length+s.length<=10000/\eh h g 150 (.slice r o t) (a.map uv)/\Num.val l=Num.bv 1000000000 a+1000000000^a.length*Num.val s) (iO h 150 ((aW 1000000000 (Num.val l)).map uv)) (by
  intro A s r o t;intros;rename_i g X;obtain⟨rfl,p,x2,Q,a,C,x0,O,I⟩:=X;refine aa (λz=>?_) (λz=>?_)
  ·have z:=dT z;have U:wrap .i64 ((s.length:Int)-9)=(s.length:Int)-9:=aB (by omega) (by omega);rw[U];have E:(if(s.length:Int)-9>0 then(s.length:Int)-9 else 0)=((s.length-9:Nat):Int):=by split<;>omega
   refine⟨_,qE _ _ _,?_⟩;rw[E];have T:=tj l (λA s r o t g=>A=s.length/\s.all bM=true/\s.length<=10000/\Ok h g/\∃a:List Nat,(∀d∈a,d<1000000000)/\a.length+s.length<=10000/\eh h g 150 (.slice r o t) (a.map uv)/\Num.val l=Num.bv 1000000000 a+1000000000^a.length*Num.val s) s.length s r o t ((s.length-9:Nat):Int)
    (λq i v B=>∃j:Nat,i=(s.length-9:Nat)+(j:Int)/\s.length-9+j<=s.length/\q=s.length-(s.length-9+j)/\v=(Num.val ((s.drop (s.length-9)).take j):Nat)/\B=g) (iO h 150 ((aW 1000000000 (Num.val l)).map uv)) (by
    intro q i v;intros;rename_i B P;obtain⟨j,rfl,hj,x3,rfl,rfl⟩:=P;have D:(s.drop (s.length-9)).all bM=true:=by
     rw[all_eq_true]at p⊢;exact λx c=>p x (List.mem_of_mem_drop c)
    have F:=B6 (l:=(s.drop (s.length-9)).take j) (by
     rw[all_eq_true]at D⊢;exact λx c=>D x (List.mem_of_mem_take c))
    have f:Num.val ((s.drop (s.length-9)).take j)<1000000000:=by
     refine Nat.lt_of_lt_of_le F (Nat.le_trans (Nat.pow_le_pow_right (by omega) (show _<=9 by rw[length_take,length_drop];omega)) (by decide))
    refine aa (λe=>?_) (λe=>?_)
    ·have e:=dT e;have H:s.length-9+j<s.length:=by omega
     have y:=Cb p H;have x4:=lf.1 y;have x1:=qT y;refine⟨_,AU (h:=B) s (by omega) e,?_⟩;have G:(((s.length-9:Nat):Int)+(j:Int)).toNat=s.length-9+j:=by omega
     rw[G];have R:wrap .u8 ((((s.getD (s.length-9+j) 0).toNat:Nat):Int)-48)=(jj (s.getD (s.length-9+j) 0):Nat):=by
      rw[sr (by omega) (by omega)];unfold jj;omega
     have e2:(s.drop (s.length-9)).getD j 0=s.getD (s.length-9+j) 0:=by
      rw[gD,List.getElem?_drop,gD]
     have N:=Ew (l:=s.drop (s.length-9)) (i:=j) (by rw[length_drop];omega);rw[e2]at N;dsimp only;rw[R,gH (n:=((jj (s.getD (s.length-9+j) 0):Nat):Int)) (by omega) (by omega),gH (n:=10*((Num.val ((s.drop (s.length-9)).take j):Nat):Int)) (by omega) (by omega),gH (by omega) (by omega),aB (n:=((s.length-9:Nat):Int)+(j:Int)+1) (by omega) (by omega)];exact iT (q-1) (by omega) ⟨j+1,by omega,by omega,by omega,by rw[N];omega,rfl⟩
    ·have e:=dF e;have K:(s.drop (s.length-9)).take j=s.drop (s.length-9):=take_of_length_le (by rw[length_drop];omega);rw[K]at f⊢;refine⟨_,_,_,sE _,?_⟩;obtain⟨b,m,d,u,V,g7,S,g9⟩:=lY w Q O ((Num.val (s.drop (s.length-9)):Nat):Int) (by rw[lM];omega);refine⟨b,m,d,u,V,?_⟩;refine⟨_,Qv s (show s.length-9<=s.length by omega),?_⟩;refine SF (s.take (s.length-9)).length (by rw[length_take];omega) ⟨rfl,?_,by rw[length_take];omega,g9,a++[Num.val (s.drop (s.length-9))],?_,?_,?_,?_⟩
     ·rw[all_eq_true]at p⊢;exact λx c=>p x (List.mem_of_mem_take c)
     ·intro x c;rcases mem_append.1 c with c|c
      ·exact C x c
      ·rw[mem_singleton.1 c];exact f
     ·rw[List.length_append,length_take];simp;omega
     ·rw[map_append];exact S
     ·rw[qq,List.length_append,I,Iu (s:=s) rfl (by omega),List.length_singleton];rcases lt_or_ge s.length 10 with W|W
      ·rw[show s.length-9=0 by omega,take_zero,jN];simp
      ·rw[show s.length-(s.length-9)=9 by omega,show(10:Nat)^9=1000000000 from rfl,Nat.pow_succ,Nat.mul_add,Nat.mul_assoc];omega)
   exact T _ ⟨0,by omega,by omega,rfl,by simp[jN],rfl⟩
  ·have z:=dF z;obtain rfl:s=[]:=List.eq_nil_of_length_eq_zero (by omega);refine(rQ O (by omega)).mono ?_;rintro _ B ⟨M,L,J,rfl,Z,rfl⟩;refine⟨M,L,J,rfl,M,L,J,rfl,?_,Q⟩;rw[I,jN,Nat.mul_zero,Nat.add_zero,<-kV (by omega) C];exact Z)
 exact GV l h _ (Y l.length ⟨rfl,hd,k,Ok.refl w,[],by simp,by simpa using k,.inl ⟨rfl,rfl⟩,by simp[Num.bv]⟩)
variable{j:Nat}{P:Program}
theorem Nj(x:Int)(h:ae):FW SS 206 [.int .u64 x] h (λv a=>v = .bool false/\a=h):=Xc x h _ ⟨by simp,rfl⟩
theorem Ni(x:Int)(h:ae):FW SS 165 [.int .i64 x] h (λv a=>v = .bool false/\a=h):=Xb x h _ ⟨by simp,rfl⟩
theorem Wo(m n:Nat)(h:ae):FW SS 196 [.int .u64 (m:Int),.int .u64 (n:Int)] h (λv c=>v = .int .i64 (eE m n)/\c=h):=by
 refine Wn _ _ h _ ((Nj _ h).mono ?_);rintro _ _ ⟨rfl,rfl⟩;refine⟨_,rfl,(Nj _ _).mono ?_⟩;rintro _ _ ⟨rfl,rfl⟩;refine⟨_,rfl,aa (λe=>by cases e) (λ_=>aa (λe=>by cases e) (λ_=>aa (λa=>?_) (λa=>aa (λb=>?_) (λb=>?_))))⟩
 ·exact⟨by rw[lb (by have:=dT a;omega)],rfl⟩
 ·exact⟨by rw[la (by have:=dT b;omega)],rfl⟩
 ·have a:=dF a;have b:=dF b;exact⟨by rw[show m=n by omega,qs],rfl⟩
theorem Wm(m n:Nat)(h:ae):FW SS 195 [.int .i64 (m:Int),.int .i64 (n:Int)] h (λv c=>v = .int .i64 (eE m n)/\c=h):=by
 refine Wk _ _ h _ ((Ni _ h).mono ?_);rintro _ _ ⟨rfl,rfl⟩;refine⟨_,rfl,(Ni _ _).mono ?_⟩;rintro _ _ ⟨rfl,rfl⟩;refine⟨_,rfl,aa (λe=>by cases e) (λ_=>aa (λe=>by cases e) (λ_=>aa (λa=>?_) (λa=>aa (λb=>?_) (λb=>?_))))⟩
 ·exact⟨by rw[lb (by have:=dT a;omega)],rfl⟩
 ·exact⟨by rw[la (by have:=dT b;omega)],rfl⟩
 ·have a:=dF a;have b:=dF b;exact⟨by rw[show m=n by omega,qs],rfl⟩
abbrev BB:Nat:=1000000000
abbrev bl(n:Nat):List Value:=(aW BB n).map uv
theorem gA:1<BB:=by decide
theorem qj{b:Option Addr}{c:Nat}{x:Nat}(E:Rd h 150 (.slice a n c) (bl x))(D:Rd h 150 (.slice b m k) (bl j))(I:(aW BB x).length<=10000)(w:Wf h):
  FW SS 186 [.slice a n c,.slice b m k] h (λv u=>v = .int .i64 (eE x j)/\Ok h u):=by
 have O:n=(aW BB x).length:=by have:=E.len;rwa[lM]at this
 have P:m=(aW BB j).length:=by have:=D.len;rwa[lM]at this
 have L:=λ(C:(aW BB x).length=(aW BB j).length)=>sK a n c b m k (λs i g=>i<=n/\s=n-i/\(aW BB x).drop (n-i)=(aW BB j).drop (n-i)/\Ok h g) (λv u=>v = .int .i64 (eE x j)/\Ok h u) (by
  intro s i;intros;rename_i g M;obtain⟨f,o,t,G⟩:=M;have B:wrap .i64 ((n:Int)-1)=(n:Int)-1:=aB (by omega) (by omega);have z:wrap .i64 ((n:Int)-1-(i:Int))=(n:Int)-1-(i:Int):=aB (by omega) (by omega);have A:wrap .i64 ((i:Int)+1)=((i+1:Nat):Int):=by rw[aB (by omega) (by omega)];omega
  rw[B,z,A];have l:=G.room 18;refine aa (λr=>?_) (λr=>?_)
  ·have r:=dT r;have N:((n:Int)-1-(i:Int)).toNat=n-1-i:=by omega
   obtain⟨p,J,H⟩:=EP (E.ok l) (i:=(n:Int)-1-(i:Int)) (by omega) (by omega);obtain⟨q,K,F⟩:=EP (D.ok l) (i:=(n:Int)-1-(i:Int)) (by omega) (by omega);rw[N]at H F;refine⟨p,J,_,H,q,K,_,F,(Wo _ _ _).mono ?_⟩;rintro _ _ ⟨rfl,rfl⟩;have y:(aW BB x).drop (n-1-i+1)=(aW BB j).drop (n-1-i+1):=by rw[show n-1-i+1=n-i by omega];exact t
   refine⟨_,rfl,aa (λd=>?_) (λd=>?_)⟩
   ·refine⟨?_,l⟩;have d:eE ((aW BB x).getD (n-1-i) 0) ((aW BB j).getD (n-1-i) 0)≠0:=by simpa using d
    rcases Nat.lt_trichotomy ((aW BB x).getD (n-1-i) 0) ((aW BB j).getD (n-1-i) 0)with e|e|e
    ·have:=sO gA (dh gA x) C (by omega) y e;rw[cg gA,cg gA]at this;rw[lb e,lb this]
    ·rw[e,qs]at d;exact absurd rfl d
    ·have:=sO gA (dh gA j) C.symm (by omega) y.symm e;rw[cg gA,cg gA]at this;rw[la e,la this]
   ·have d:eE ((aW BB x).getD (n-1-i) 0) ((aW BB j).getD (n-1-i) 0)=0:=by simpa using d
    have e:(aW BB x).getD (n-1-i) 0=(aW BB j).getD (n-1-i) 0:=by
     unfold eE at d;split at d
     ·cases d
     ·split at d
      ·assumption
      ·cases d
    refine bW (s-1) (by omega) ⟨by omega,by omega,?_,l⟩;rw[show n-(i+1)=n-1-i by omega,drop_eq_getElem_cons (show n-1-i<(aW BB x).length by omega),drop_eq_getElem_cons (show n-1-i<(aW BB j).length by omega),y];congr 1;rw[gD,gE (by omega),gD,gE (by omega)]at e;exact e
  ·have r:=dF r;rw[show n-i=0 by omega,drop_zero,drop_zero]at t;have:x=j:=by rw[<-cg gA x,t,cg gA]
   exact⟨by rw[this,qs],G⟩)
 refine Ek a n c b m k h _ (aa (λf=>(Wm _ _ h).mono ?_) (λf=>?_))
 ·rintro _ _ ⟨rfl,rfl⟩;have f:=Lv f;refine⟨_,rfl,?_,Ok.refl w⟩;rcases Nat.lt_trichotomy n m with o|o|o
  ·rw[lb o,lb (lG gA (by omega))]
  ·exact absurd o f
  ·rw[la o,la (lG gA (by omega))]
 ·have f:=K7 f;refine L (by omega) n (i:=0) ⟨by omega,by omega,?_,Ok.refl w⟩;rw[Nat.sub_zero,List.drop_of_length_le (by omega),List.drop_of_length_le (by omega)]
theorem Jc{t:TypeId}{p:Value}(o:Ok h g)(a:aj P t h p=some v):aj P t g p=some v:=by
 unfold aj at a⊢;split at a
 ·next c=>
  split at a
  ·next cs _ _ _ b=>rw[o.ext _ _ b];exact a
  ·cases a
 ·cases a
theorem Mf{p:Option Addr}(g:aj SS.P 150 h (.pointer p)=some (.int .u64 (k:Int)))(x y z:Nat)(c:x<BB)(e:k<=BB)(l:z<BB):
  FW SS 213 [.int .u64 (x:Int),.int .u64 (y:Int),.int .u64 (z:Int),.pointer p] h (λv d=>v = .tuple ⟨[uv (cN BB k x y z).1,uv (cN BB k x y z).2]⟩/\d=h):=by
 have i:BB=1000000000:=rfl;have j:x*k<=1000000000000000000:=Nat.le_trans (Nat.mul_le_mul (Nat.le_of_lt c) e) (by decide);have a:wrap .u64 ((x:Int)*(k:Int))=((x*k:Nat):Int):=by rw[<-Int.natCast_mul];exact gH (by omega) (by omega)
 have f:wrap .u64 (((x*k:Nat):Int)+(z:Int))=((x*k+z:Nat):Int):=by rw[<-Int.natCast_add];exact gH (by omega) (by omega)
 refine Me _ _ _ p h _ ⟨_,g,?_⟩;dsimp only;rw[a,f];refine⟨_,gG (b:=BB) (by omega) (by decide),_,pM (b:=BB) (by omega) (by omega) (by decide),?_,rfl⟩;unfold uv cN;rw[Int.natCast_emod,Int.natCast_ediv]
theorem Ed{c:Nat}{p:Option Addr}(S:Rd h 150 (.slice a n c) (x.map uv))(C:∀d∈x,d<BB)(x0:x.length<=10000)(hp:aj SS.P 150 h (.pointer p)=some (.int .u64 (k:Int)))(A:0<k)(E:k<=BB)(w:Wf h):
  FW SS 193 [.slice a n c,.slice none 0 0,.func (.func 213) ⟨[]⟩ ⟨[.pointer p]⟩] h (iO h 150 (bl (Num.bv BB x*k))):=by
 have hn:n=x.length:=by have:=S.len;rwa[lM]at this
 have Z:BB=1000000000:=rfl;have hF:∀p q c,c<=BB-1->p<BB->(cN BB k p q c).2<=BB-1:=λp q c hc hp=>by
  unfold cN;dsimp only;have h1:p*k<=999999999*1000000000:=Nat.mul_le_mul (by omega) E;have:(p*k+c)/BB<BB:=Nat.div_lt_of_lt_mul (by rw[Z];omega);omega
 have T:∀j,eF (cN BB k) x [] 0 0 j<=BB-1:=by
  intro j
  induction j with
  |zero=>exact Nat.zero_le _
  |succ j ih=>exact hF _ _ _ ih (aZ (by decide) C _)
 have W:dL (bk (cN BB k) x [] 0 (n+1) 0)=aW BB (Num.bv BB x*k):=by
  rw[kV gA (jk (λp q c=>mod_lt _ (by decide)) x [] (n+1) 0 0),KI gA E A C (n+1) 0 0 (by omega) A (by omega)];rw[drop_zero,Nat.add_zero]
 have L:=sJ a n c p ((n:Int)+1) (λz i cy r N P g=>i<=n+1/\z=n+1-i/\cy=(eF (cN BB k) x [] 0 0 i:Nat)/\eh h g 150 (.slice r N P) ((bk (cN BB k) x [] 0 i 0).map uv)/\Ok h g) (iO h 150 (bl (Num.bv BB x*k))) (by
  intro z i cy r N P;intros;rename_i g hi;obtain⟨h1,h2,rfl,F,v⟩:=hi;have K:wrap .i64 ((i:Int)+1)=((i+1:Nat):Int):=by rw[aB (by omega) (by omega)];omega
  rw[K];have l:(bk (cN BB k) x [] 0 i 0).length=i:=eQ _ _ _ _ _ _;have f:=hJ (cN BB k) x [] i 0 0;rw[Nat.zero_add]at f;have o:eF (cN BB k) x [] 0 0 (i+1)=(cN BB k (x.getD i 0) (([]:List Nat).getD i 0) (eF (cN BB k) x [] 0 0 i)).2:=by
   show(cN BB k (x.getD (0+i) 0) (([]:List Nat).getD (0+i) 0) _).2=_;rw[Nat.zero_add]
  have x1:=T i;have X:=aZ (b:=BB) (by decide) C i;have O:=Jc v hp;have U:=Mf O (x.getD i 0) (([]:List Nat).getD i 0) (eF (cN BB k) x [] 0 0 i) X E (by omega);have M:([]:List Nat).getD i 0=0:=by simp
  refine aa (λy=>?_) (λy=>?_)
  ·have y:=dT y;refine aa (λt=>?_) (λt=>?_)
   ·have t:=dT t;obtain⟨q,J,g3⟩:=EP (S.ok v) (i:=(i:Int)) (by omega) (by omega);rw[Int.toNat_natCast]at g3;refine⟨q,J,_,g3,aa (λs=>?_) (λs=>?_)⟩
    ·have:=dT s;omega
    ·refine(show FW SS 213 [.int .u64 ((x.getD i 0:Nat):Int),.int .u64 ((([]:List Nat).getD i 0:Nat):Int),.int .u64 ((eF (cN BB k) x [] 0 0 i:Nat):Int),.pointer p] g _ from U).mono ?_ |> (λe=>by rw[M]at e;exact e)
     rintro _ _ ⟨rfl,rfl⟩;refine⟨_,_,rfl,_,_,_,sE _,?_⟩;obtain⟨b,m,d,u,D,g7,B,G⟩:=lY w v F ((cN BB k (x.getD i 0) (([]:List Nat).getD i 0) (eF (cN BB k) x [] 0 0 i)).1:Nat) (by rw[lM,l];omega);refine⟨b,m,d,u,D,oN (z-1) (by omega) ⟨by omega,by omega,by rw[o],?_,G⟩⟩;rw[f,map_append];exact B
   ·have t:=dF t;have V:x.getD i 0=0:=by rw[gD,List.getElem?_eq_none (by omega)];rfl
    refine aa (λs=>?_) (λs=>?_)
    ·have:=dT s;omega
    ·refine(show FW SS 213 [.int .u64 ((x.getD i 0:Nat):Int),.int .u64 ((([]:List Nat).getD i 0:Nat):Int),.int .u64 ((eF (cN BB k) x [] 0 0 i:Nat):Int),.pointer p] g _ from U).mono ?_ |> (λe=>by rw[M,V]at e;exact e)
     rintro _ _ ⟨rfl,rfl⟩;refine⟨_,_,rfl,_,_,_,sE _,?_⟩;obtain⟨b,m,d,u,D,g7,B,G⟩:=lY w v F ((cN BB k (x.getD i 0) (([]:List Nat).getD i 0) (eF (cN BB k) x [] 0 0 i)).1:Nat) (by rw[lM,l];omega);refine⟨b,m,d,u,D,oN (z-1) (by omega) ⟨by omega,by omega,by rw[o],?_,G⟩⟩;rw[f,map_append];exact B
  ·have y:=dF y;obtain rfl:i=n+1:=by omega
   refine(rQ F (by rw[l];omega)).mono ?_;rintro _ J ⟨R,Q,I,rfl,Y,rfl⟩;rw[W]at Y;exact⟨R,Q,I,rfl,R,Q,I,rfl,Y,v⟩)
 refine Ec a n c p h _ ⟨_,qE _ _ _,?_⟩;have H:(if(0:Int)>(n:Int)then(0:Int)else(n:Int))=(n:Int):=if_neg (by omega);have hw:wrap .i64 ((n:Int)+1)=(n:Int)+1:=aB (by omega) (by omega);dsimp only;rw[H,hw];exact L (n+1) (i:=0) ⟨by omega,by omega,rfl,.inl ⟨rfl,rfl⟩,Ok.refl w⟩
noncomputable def bw:FD:=cF Tryz.f203 [([1,1,1,1,0,0,0],[0,1,5,7,8]),([1,1,1,1,1,1,0,1,0,0],[0,1,5,7,9,10,87,88]),([1,1,1,1,1,1,1,1,1,0,1,0,0],[0,1,5,7,10,128,129])]
abbrev eK(a:OA)(n c:Nat)(b:OA)(m d:Nat)(q e:Int):LV:=[(.slice a n c),(.slice b m d),(iA m),(.int .u64 q),(.int .u64 e)]
abbrev dr(a:OA)(n c:Nat)(b:OA)(m d:Nat)(q e:Int)(i:Nat)(f cy:Int):LV:=[(.slice a n c),(.slice b m d),(iA m),(.int .u64 q),(.int .u64 f),(.int .u64 cy),(.int .i64 e),(iA i)]
abbrev gM(a:OA)(n c:Nat)(b:OA)(m d:Nat)(q e:Int)(i:Nat)(cy:Int):LV:=[(.slice a n c),(.slice b m d),(iA m),(.int .u64 q),(.int .u64 cy),(.int .i64 e),(iA i)]
theorem Jh(a:OA)(n c:Nat)(b:OA)(m d:Nat)(h:ae)(Q:VH)(r:iP 177 (.slice a n c) (iA m) λq=>xI .u64 (aj SS.P 150 (room h 12) (.pointer (some q))) λp=>iP 177 (.slice a n c) (.int .i64 (wrap .i64 ((m:Int)-1))) λo=>xI .u64 (aj SS.P 150 (room h 12) (.pointer (some o))) λl=>iP 177 (.slice b m d) (.int .i64 (wrap .i64 ((m:Int)-1))) λk=>xI .u64 (aj SS.P 150 (room (room h 12) 16) (.pointer (some k))) λj=>xI .u64 (ax SS.P .quo 150 (.int .u64 (wrap .u64 (wrap .u64 (p*1000000000)+l))) (.int .u64 j)) λi=>iP 177 (.slice b m d) (.int .i64 (wrap .i64 ((m:Int)-1))) λg=>xI .u64 (aj SS.P 150 (room (room h 12) 16) (.pointer (some g))) λf=>xI .u64 (ax SS.P .rem 150 (.int .u64 (wrap .u64 (wrap .u64 (p*1000000000)+l))) (.int .u64 f)) λe=>LL SS bw [1,1,1,1,0,0,0] (eK a n c b m d i e) (room (room h 12) 16) (KK SS bw [1,1,1,1,0,0] [] (EE SS bw Q))):FW SS 203 [(.slice a n c),(.slice b m d)] h Q:=cJ bw Tryz.func203 (ai r)
theorem uI(a:OA)(n c:Nat)(b:OA)(m d:Nat)  (o:Nat->Int->Int->ae->Prop) (Q:VH) (step:∀(p:Nat)(q l:Int)(s:Nat->Value)(h:ae),o p q l h->au (decide ((q:Int)>=1000000000)) (iP 177 (.slice b m d) (.int .i64 (wrap .i64 ((m:Int)-1))) λf=>xI .u64 (aj SS.P 150 (room h 28) (.pointer (some f))) λe=>au (decide ((wrap .u64 (l+e):Int)>=1000000000)) (au (decide ((wrap .u64 (q-1):Int)<1000000000)) (LL SS bw [1,1,1,1,1,1,0,1,0,0] (dr a n c b m d (wrap .u64 (q-1)) (wrap .i64 ((m:Int)+1)) 0 0 0) (room h 28) (KK SS bw [1,1,1,1,1,1,0,1,0] [] (EE SS bw Q))) (aJ (qR (eK a n c b m d) o) p [(.slice a n c),(.slice b m d),(iA m),(.int .u64 (wrap .u64 (q-1))),(.int .u64 (wrap .u64 (l+e)))] (room h 28))) (aJ (qR (eK a n c b m d) o) p [(.slice a n c),(.slice b m d),(iA m),(.int .u64 (wrap .u64 (q-1))),(.int .u64 (wrap .u64 (l+e)))] (room h 28))) (au (decide (((m:Int):Int)>1)) (au (decide ((l:Int)<1000000000)) (iP 177 (.slice b m d) (.int .i64 (wrap .i64 ((m:Int)-2))) λk=>xI .u64 (aj SS.P 150 (room h 28) (.pointer (some k))) λj=>iP 177 (.slice a n c) (.int .i64 (wrap .i64 ((m:Int)-2))) λi=>xI .u64 (aj SS.P 150 (room h 28) (.pointer (some i))) λg=>au (decide ((wrap .u64 (q*j):Int)>wrap .u64 (wrap .u64 (l*1000000000)+g))) (iP 177 (.slice b m d) (.int .i64 (wrap .i64 ((m:Int)-1))) λf=>xI .u64 (aj SS.P 150 (room h 28) (.pointer (some f))) λe=>au (decide ((wrap .u64 (l+e):Int)>=1000000000)) (au (decide ((wrap .u64 (q-1):Int)<1000000000)) (LL SS bw [1,1,1,1,1,1,0,1,0,0] (dr a n c b m d (wrap .u64 (q-1)) (wrap .i64 ((m:Int)+1)) 0 0 0) (room h 28) (KK SS bw [1,1,1,1,1,1,0,1,0] [] (EE SS bw Q))) (aJ (qR (eK a n c b m d) o) p [(.slice a n c),(.slice b m d),(iA m),(.int .u64 (wrap .u64 (q-1))),(.int .u64 (wrap .u64 (l+e)))] (room h 28))) (aJ (qR (eK a n c b m d) o) p [(.slice a n c),(.slice b m d),(iA m),(.int .u64 (wrap .u64 (q-1))),(.int .u64 (wrap .u64 (l+e)))] (room h 28))) (LL SS bw [1,1,1,1,1,1,0,1,0,0] (dr a n c b m d q (wrap .i64 ((m:Int)+1)) 0 0 0) (room h 28) (KK SS bw [1,1,1,1,1,1,0,1,0] [] (EE SS bw Q)))) (LL SS bw [1,1,1,1,1,1,0,1,0,0] (dr a n c b m d q (wrap .i64 ((m:Int)+1)) 0 0 0) (room h 28) (KK SS bw [1,1,1,1,1,1,0,1,0] [] (EE SS bw Q)))) (LL SS bw [1,1,1,1,1,1,0,1,0,0] (dr a n c b m d q (wrap .i64 ((m:Int)+1)) 0 0 0) (room h 28) (KK SS bw [1,1,1,1,1,1,0,1,0] [] (EE SS bw Q))))) (p:Nat) {q l:Int} {h:ae} (r:o p q l h):LL SS bw [1,1,1,1,0,0,0] (eK a n c b m d q l) h (KK SS bw [1,1,1,1,0,0] [] (EE SS bw Q)):=
 nB (eK a n c b m d) o (λp q l s h r=>ai (step p q l s h r)) p r
theorem uJ(a:OA)(n c:Nat)(b:OA)(m d:Nat)(q t:Int)(v:Nat->Nat->Int->Int->ae->Prop)(Q:VH)(step:∀(w:Nat) (i:Nat) (u cy:Int) (y:Nat->Value) (h:ae),v w i u cy h->au (decide (((i:Int):Int)<t)) (au (decide (((i:Int):Int)<(m:Int))) (iP 177 (.slice b m d) (iA i) λs=>xI .u64 (aj SS.P 150 h (.pointer (some s))) λr=>iP 177 (.slice a n c) (iA i) λp=>xI .u64 (aj SS.P 150 h (.pointer (some p))) λo=>xI .u64 (ax SS.P .rem 150 (.int .u64 (wrap .u64 (cy+wrap .u64 (q*r)))) (.int .u64 1000000000)) λl=>xI .u64 (ax SS.P .rem 150 (.int .u64 (wrap .u64 (wrap .u64 (wrap .u64 (o+1000000000)-l)-u))) (.int .u64 1000000000)) λk=>xI .u64 (ax SS.P .quo 150 (.int .u64 (wrap .u64 (wrap .u64 (wrap .u64 (o+1000000000)-l)-u))) (.int .u64 1000000000)) λj=>xI .u64 (ax SS.P .quo 150 (.int .u64 (wrap .u64 (cy+wrap .u64 (q*r)))) (.int .u64 1000000000)) λg=>iP 177 (.slice a n c) (iA i) λf=>xU (ah SS.P 150 (.pointer (some f)) (.int .u64 k) h) h λ_ e=>aJ (Y6 (dr a n c b m d q t) v) w [(.slice a n c),(.slice b m d),(iA m),(.int .u64 q),(.int .u64 (wrap .u64 (1-j))),(.int .u64 g),(.int .i64 t),(.int .i64 (wrap .i64 ((i:Int)+1)))] e) (iP 177 (.slice a n c) (iA i) λp=>xI .u64 (aj SS.P 150 h (.pointer (some p))) λo=>xI .u64 (ax SS.P .rem 150 (.int .u64 cy) (.int .u64 1000000000)) λl=>xI .u64 (ax SS.P .rem 150 (.int .u64 (wrap .u64 (wrap .u64 (wrap .u64 (o+1000000000)-l)-u))) (.int .u64 1000000000)) λk=>xI .u64 (ax SS.P .quo 150 (.int .u64 (wrap .u64 (wrap .u64 (wrap .u64 (o+1000000000)-l)-u))) (.int .u64 1000000000)) λj=>xI .u64 (ax SS.P .quo 150 (.int .u64 cy) (.int .u64 1000000000)) λg=>iP 177 (.slice a n c) (iA i) λf=>xU (ah SS.P 150 (.pointer (some f)) (.int .u64 k) h) h λ_ e=>aJ (Y6 (dr a n c b m d q t) v) w [(.slice a n c),(.slice b m d),(iA m),(.int .u64 q),(.int .u64 (wrap .u64 (1-j))),(.int .u64 g),(.int .i64 t),(.int .i64 (wrap .i64 ((i:Int)+1)))] e)) (au (((u:Int)==0)) (Q (.int .u64 q) h) (LL SS bw [1,1,1,1,1,1,1,1,1,0,1,0,0] (gM a n c b m d q (wrap .i64 ((m:Int)+1)) 0 0) h (KK SS bw [1,1,1,1,1,1,1,1,1,0,1,0] [] (EE SS bw Q)))))(w:Nat){i:Nat}{u cy:Int}{h:ae}(x:v w i u cy h):LL SS bw [1,1,1,1,1,1,0,1,0,0] (dr a n c b m d q t i u cy) h (KK SS bw [1,1,1,1,1,1,0,1,0] [] (EE SS bw Q)):=
 Uf (dr a n c b m d q t) v (λw i u cy y h x=>ai (step w i u cy y h x)) w x
theorem uK(a:OA)(n c:Nat)(b:OA)(m d:Nat)(q r:Int)(s:Nat->Nat->Int->ae->Prop)(Q:VH)(step:∀(t:Nat) (i:Nat) (cy:Int) (v:Nat->Value) (h:ae),s t i cy h->au (decide (((i:Int):Int)<r)) (iP 177 (.slice a n c) (iA i) λp=>xI .u64 (aj SS.P 150 h (.pointer (some p))) λo=>au (decide (((i:Int):Int)<(m:Int))) (iP 177 (.slice b m d) (iA i) λl=>xI .u64 (aj SS.P 150 h (.pointer (some l))) λk=>xI .u64 (ax SS.P .rem 150 (.int .u64 (wrap .u64 (wrap .u64 (o+cy)+k))) (.int .u64 1000000000)) λj=>xI .u64 (ax SS.P .quo 150 (.int .u64 (wrap .u64 (wrap .u64 (o+cy)+k))) (.int .u64 1000000000)) λg=>iP 177 (.slice a n c) (iA i) λf=>xU (ah SS.P 150 (.pointer (some f)) (.int .u64 j) h) h λ_ e=>aJ (qR (gM a n c b m d q r) s) t [(.slice a n c),(.slice b m d),(iA m),(.int .u64 q),(.int .u64 g),(.int .i64 r),(.int .i64 (wrap .i64 ((i:Int)+1)))] e) (xI .u64 (ax SS.P .rem 150 (.int .u64 (wrap .u64 (o+cy))) (.int .u64 1000000000)) λj=>xI .u64 (ax SS.P .quo 150 (.int .u64 (wrap .u64 (o+cy))) (.int .u64 1000000000)) λg=>iP 177 (.slice a n c) (iA i) λf=>xU (ah SS.P 150 (.pointer (some f)) (.int .u64 j) h) h λ_ e=>aJ (qR (gM a n c b m d q r) s) t [(.slice a n c),(.slice b m d),(iA m),(.int .u64 q),(.int .u64 g),(.int .i64 r),(.int .i64 (wrap .i64 ((i:Int)+1)))] e)) (Q (.int .u64 (wrap .u64 (q-1))) h))(t:Nat){i:Nat}{cy:Int}{h:ae}(u:s t i cy h):LL SS bw [1,1,1,1,1,1,1,1,1,0,1,0,0] (gM a n c b m d q r i cy) h (KK SS bw [1,1,1,1,1,1,1,1,1,0,1,0] [] (EE SS bw Q)):=
 nB (gM a n c b m d q r) s (λt i cy v h u=>ai (step t i cy v h u)) t u
noncomputable def ck:FD:=cF Tryz.f189 [([1,1,1,1,1,0,0,0],[0,1,6,7,8,9]),([1,1,1,1,1,1,1,0,1,0,0],[0,1,4,6,7,8,9,49,50]),([1,1,1,1,1,1,1,1,1,1,0,1,0,0],[4,5,7,12,74,75])]
abbrev iV(a:OA)(n c:Nat)(b:OA)(m d:Nat)(j:Int)(e:OA)(f h:Nat)(r:OA)(g i:Nat):LV:=[(.slice a n c),(.slice b m d),(iA m),(.int .u64 j),(.slice r g i),(.slice e f h)]
abbrev iW(a:OA)(n c:Nat)(b:OA)(m d:Nat)(p:Int)(g:OA)(q l:Nat)(r:OA)(j o:Nat)(e:OA)(h k:Nat)(f:Int)(i:Nat):LV:=[(.slice a n c),(.slice b m d),(.slice g q l),(iA m),(.int .u64 p),(.slice r j o),(.slice e h k),(.int .i64 f),(iA i)]
abbrev iX(e:Int)(g:OA)(f c:Nat)(r:OA)(b d:Nat)(a:Int)(i:Nat)(left:Int):LV:=[(.slice g f c),(.slice r b d),(.int .u64 e),(.int .u64 left),(.int .i64 a),(iA i)]
theorem GW(a:OA)(n c:Nat)(b:OA)(m d:Nat)(h:ae)(Q:VH)(w:FW SS 186 [(.slice a n c),(.slice b m d)] h λu v=>yI .i64 u λt=>au (decide ((t:Int)<0)) (Q (.tuple ⟨[nA,(.slice a n c)]⟩) v) (iP 177 (.slice b m d) (.int .i64 (wrap .i64 ((m:Int)-1))) λs=>xI .u64 (aj SS.P 150 v (.pointer (some s))) λr=>xI .u64 (ax SS.P .quo 150 (.int .u64 1000000000) (.int .u64 (wrap .u64 (r+1)))) λq=>FW SS 202 [(.slice a n c),(.int .u64 q)] v λo p=>yL o λj k l=>FW SS 202 [(.slice b m d),(.int .u64 q)] p λh i=>yL h λe f g=>LL SS ck [1,1,1,1,1,0,0,0] (iV a n c b m d q e f g j k l) i (KK SS ck [1,1,1,1,1,0,0] [] (EE SS ck Q)))):FW SS 189 [(.slice a n c),(.slice b m d)] h Q:=cJ ck Tryz.func189 (ai w)
theorem tk(a:OA)(n c:Nat)(b:OA)(m d:Nat)(v:Int)(e:OA)(t u:Nat)(s:Nat->OA->Nat->Nat->ae->Prop)(Q:VH)(step:∀(q:Nat) (r:OA) (o p:Nat) (x:Nat->Value) (h:ae),s q r o p h->au (decide (((o:Int):Int)<=(n:Int))) (xR (aF SS.P 177 1 [(0,(.int .u64 0))]) h λ_ j k l=>xE (bF SS.P 177 177 (.slice r o p) (sA (h.next) j k) l) l λf g h _ i=>aJ (Y6 (iV a n c b m d v e t u) s) q [(.slice a n c),(.slice b m d),(iA m),(.int .u64 v),(.slice f g h),(.slice e t u)] i) (xR (bZ SS.P 177 (.int .i64 (wrap .i64 ((o:Int)-(m:Int)))) (.int .i64 (wrap .i64 ((o:Int)-(m:Int))))) h λ_ f g i=>LL SS ck [1,1,1,1,1,1,1,0,1,0,0] (iW a n c b m d v (some ⟨h.next,0,none⟩) f g r o p e t u (f:Int) 0) i (KK SS ck [1,1,1,1,1,1,1,0,1,0] [] (EE SS ck Q))))(q:Nat){r:OA}{o p:Nat}{h:ae}(w:s q r o p h):LL SS ck [1,1,1,1,1,0,0,0] (iV a n c b m d v e t u r o p) h (KK SS ck [1,1,1,1,1,0,0] [] (EE SS ck Q)):=
 Uf (iV a n c b m d v e t u) s (λq r o p x h w=>ai (step q r o p x h w)) q w
theorem tl(a:OA)(n c:Nat)(b:OA)(m d:Nat)(B:Int)(g:OA)(s x:Nat)(r:OA)(w y:Nat)(e:OA)(z A:Nat)(t:Int)(v:Nat->Nat->ae->Prop)(Q:VH)(step:∀(u:Nat) (i:Nat) (D:Nat->Value) (h:ae),v u i h->au (decide (((i:Int):Int)<t)) (xL (bO SS.P 177 (.slice r w y) (some (.int .i64 (wrap .i64 (wrap .i64 ((s:Int)-1)-(i:Int))))) (some (.int .i64 (wrap .i64 (wrap .i64 (wrap .i64 (wrap .i64 ((s:Int)-1)-(i:Int))+(m:Int))+1)))) none h) λo p q=>FW SS 203 [(.slice o p q),(.slice e z A)] h λk l=>yI .u64 k λj=>xP (aA SS.P 177 (.slice g s x) (.int .i64 (wrap .i64 (wrap .i64 ((s:Int)-1)-(i:Int))))) λh=>xU (ah SS.P 150 (.pointer (some h)) (.int .u64 j) l) l λ_ f=>aJ (fj (iW a n c b m d B g s x r w y e z A t) v) u [(.slice a n c),(.slice b m d),(.slice g s x),(iA m),(.int .u64 B),(.slice r w y),(.slice e z A),(.int .i64 t),(.int .i64 (wrap .i64 ((i:Int)+1)))] f) (FW SS 174 [(.slice r w y)] h λd e=>yL d λa b c=>LL SS ck [1,1,1,1,1,1,1,1,1,1,0,1,0,0] (iX B g s x a b c (b:Int) 0 0) e (KK SS ck [1,1,1,1,1,1,1,1,1,1,0,1,0] [] (EE SS ck Q))))(u:Nat){i:Nat}{h:ae}(C:v u i h):LL SS ck [1,1,1,1,1,1,1,0,1,0,0] (iW a n c b m d B g s x r w y e z A t i) h (KK SS ck [1,1,1,1,1,1,1,0,1,0] [] (EE SS ck Q)):=
 db (iW a n c b m d B g s x r w y e z A t) v (λu i D h C=>ai (step u i D h C)) u C
theorem tn(a:OA)(n c:Nat)(b:OA)(m d:Nat)(s:Int)(g:OA)(u t:Nat)(r:OA)(k p:Nat)(l:Int)(q:Nat->Nat->Int->ae->Prop)(Q:VH)(step:∀(o:Nat) (i:Nat) (left:Int) (w:Nat->Value) (h:ae),q o i left h->au (decide (((i:Int):Int)<l)) (xP (aA SS.P 177 (.slice r k p) (.int .i64 (wrap .i64 (wrap .i64 ((k:Int)-1)-(i:Int))))) λf=>xI .u64 (aj SS.P 150 h (.pointer (some f))) λe=>xI .u64 (ax SS.P .quo 150 (.int .u64 (wrap .u64 (wrap .u64 (left*1000000000)+e))) (.int .u64 s)) λd=>xI .u64 (ax SS.P .rem 150 (.int .u64 (wrap .u64 (wrap .u64 (left*1000000000)+e))) (.int .u64 s)) λc=>xP (aA SS.P 177 (.slice r k p) (.int .i64 (wrap .i64 (wrap .i64 ((k:Int)-1)-(i:Int))))) λb=>xU (ah SS.P 150 (.pointer (some b)) (.int .u64 d) (room h 11)) (room h 11) λ_ a=>aJ (qR (iX s g u t r k p l) q) o [(.slice g u t),(.slice r k p),(.int .u64 s),(.int .u64 c),(.int .i64 l),(.int .i64 (wrap .i64 ((i:Int)+1)))] a) (FW SS 174 [(.slice g u t)] h λi j=>yL i λf g h=>FW SS 174 [(.slice r k p)] j λd e=>yL d λa b c=>Q (.tuple ⟨[(.slice f g h),(.slice a b c)]⟩) e))(o:Nat){i:Nat}{left:Int}{h:ae}(v:q o i left h):LL SS ck [1,1,1,1,1,1,1,1,1,1,0,1,0,0] (iX s g u t r k p l i left) h (KK SS ck [1,1,1,1,1,1,1,1,1,1,0,1,0] [] (EE SS ck Q)):=
 nB (iX s g u t r k p l) q (λo i left w h v=>ai (step o i left w h v)) o v
section
def cA(cs:List Value)(off:Nat)(W:List Nat):List Value:=cs.take off++W.map uv++cs.drop (off+W.length)
structure Ih(h:ae)(k:Nat)(h':ae):Prop where
 wf:Wf h'
 kA:∀j B,j≠k->h.get j=some B->h'.get j=some B
 nx:h.next<=h'.next
theorem Ih.refl{k:Nat}(w:Wf h):Ih h k h:=⟨w,λ_ _ _ h=>h,Nat.le_refl _⟩
theorem Ih.room{h a:ae}{k:Nat}(o:Ih h k a)(n:Nat):Ih h k (room a n):=⟨λj B b=>Nat.lt_of_lt_of_le (o.wf j B b) (Nat.le_add_right _ _),o.kA,Nat.le_trans o.nx (Nat.le_add_right _ _)⟩
theorem Ih.set{c:ae}{k:Nat}(o:Ih h k c)(d:k<c.next)(B:dN):Ih h k (c.set k B):=by
 refine⟨λj C a=>?_,λj C b a=>?_,o.nx⟩
 ·rw[ae.aw]at a;split at a
  ·next e=>rw[e];exact d
  ·exact o.wf _ _ a
 ·rw[ae.aw,if_neg b];exact o.kA _ _ b a
theorem wX{k off c:Nat}{i:Int}(b:0<=i)(a:i<n):aA SS.P 177 (.slice (some ⟨k,off,none⟩) n c) (.int .i64 i)=some (.pointer (some ⟨k,off+i.toNat,none⟩)):=by
 unfold aA;rw[AD];dsimp only;rw[DV];dsimp only;rw[if_pos ⟨b,a⟩,Nat.mul_one,dt]
section
variable {g:ae} {k off:Nat} {cs:List Value} {W:List Nat}
theorem CM(b:g.get k=some (.cells (cA cs off W) 150 1 true))(c:off+W.length<=cs.length){i:Nat}(a:i<W.length):aj SS.P 150 g (.pointer (some ⟨k,off+i,none⟩))=some (.int .u64 (W.getD i 0:Nat)):=by
 unfold aj;rw[NI];dsimp only;rw[b];dsimp only;rw[MS];simp only[Bool.false_eq_true,if_false];unfold cA;rw[append_assoc,List.getElem?_append_right (by rw[length_take];omega),length_take,Nat.min_eq_left (by omega),Nat.add_sub_cancel_left,List.getElem?_append_left (by rw[lM];exact a),getElem?_map,gE a,gD,gE a];rfl
theorem Dp(h:g.get k=some (.cells (cA cs off W) 150 1 true))(j:off+W.length<=cs.length){i:Nat}(b:i<W.length)(d:Nat):ah SS.P 150 (.pointer (some ⟨k,off+i,none⟩)) (.int .u64 (d:Int)) g=some (undef,.set k (.cells (cA cs off (W.set i d)) 150 1 true)):=by
 show(if aE SS.P 150=some 1 then(storeAt g k (off+i) [.int .u64 (d:Int)]).map λu=>(undef,u)else none)=_;rw[if_pos DV];unfold storeAt;rw[h];dsimp only;have a:(cA cs off W).length=cs.length:=by
  unfold cA;simp only[List.length_append,length_take,lM,length_drop];omega
 rw[if_pos ⟨by rw[a];simp;omega,rfl⟩];have e:(cA cs off W).take (off+i)++[Value.int .u64 (d:Int)]++(cA cs off W).drop (off+i+[Value.int .u64 (d:Int)].length)=cA cs off (W.set i d):=by
  have f:(cs.take off).length=off:=by rw[length_take];omega
  have c:(cA cs off W).take (off+i)++[Value.int .u64 (d:Int)]++(cA cs off W).drop (off+i+[Value.int .u64 (d:Int)].length)=(cA cs off W).set (off+i) (.int .u64 (d:Int)):=by
   rw[List.set_eq_take_append_cons_drop,if_pos (by rw[a];omega),append_assoc];rfl
  rw[c];unfold cA;rw[append_assoc,List.set_append,if_neg (by omega),f,Nat.add_sub_cancel_left,List.set_append,if_pos (by rw[lM];exact b),length_set,append_assoc,map_set];rfl
 rw[e];rfl
end
end
end Go.Proofs.YtaaichlgdgjgjaaGreatDoor
end
