/- Laws and walks that the proof leans on (part 3): NumDec; NumBlk; NumRef; NumRef2; P1; W2 and others. No condition. -/
import Derived.Test.YtoabjjimjldcfaaGreatDoorPart2
open List (all_append all_cons all_eq_true all_nil append_assoc cons_append drop_eq_getElem_cons drop_eq_nil_of_le drop_of_length_le drop_zero eq_nil_of_length_eq_zero getElem?_eq_none getElem?_map getElem?_take getElem_mem length_append length_cons length_drop length_pos_iff length_replicate length_set length_take map_append map_drop map_take mem_cons mem_of_mem_drop mem_of_mem_take nil_append take_append_drop take_length take_of_length_le take_take take_zero)
open Nat (add_comm add_mul add_sub_cancel add_zero div_eq_of_lt div_lt_of_lt_mul div_lt_self eq_zero_or_pos le_refl le_trans lt_of_lt_of_le lt_or_ge min_eq_left mod_add_div mod_eq_of_lt mod_lt mul_add mul_assoc mul_comm mul_le_mul mul_le_mul_left mul_le_mul_right mul_one mul_pos mul_succ mul_zero one_mul pow_add pow_le_pow_right pow_succ sub_self sub_zero succ_le_of_lt succ_mul zero_add zero_le zero_mul)
open Bool (and_eq_true)
open Int (toNat_natCast)
open Go.IntKind (wrap wrap_i64)
section
namespace Go.Num
def isDig (c:UInt8):Bool:=decide (48<=c.toNat) && decide (c.toNat<=57)
def dv (c:UInt8):Nat:=c.toNat - 48
def val (l:List UInt8):Nat:=l.foldl (fun n c=>10*n+dv c) 0
def dig (n:Nat):UInt8:=UInt8.ofNat (48+n)
theorem val_nil:val []=0:=rfl
theorem val_snoc (l:List UInt8)(c:UInt8):val (l++[c])=10*val l+dv c:=by simp [val,List.foldl_append]
theorem toNat_dig {n:Nat}(h:n < 10):(dig n).toNat=48+n:=by
 unfold dig; rw [UInt8.toNat_ofNat']; omega
theorem dv_dig {n:Nat}(h:n < 10):dv (dig n)=n:=by
 unfold dv; rw [toNat_dig h]; omega
theorem isDig_dig {n:Nat}(h:n < 10):isDig (dig n)=true:=by
 unfold isDig; rw [toNat_dig h]; simp; omega
theorem isDig_iff {c:UInt8}:isDig c=true↔48<=c.toNat/\c.toNat<=57:=by simp [isDig]
theorem dv_lt {c:UInt8}(h:isDig c=true):dv c < 10:=by
 rw [isDig_iff] at h; unfold dv; omega
theorem Ag {c:UInt8}(h:isDig c=true):dig (dv c)=c:=by
 have h1:=dv_lt h;rw [isDig_iff] at h;apply UInt8.toNat_inj.1;rw [toNat_dig h1]; unfold dv; omega
theorem jY {α:Type}{P:List α->Prop}(h0:P [])(h1: ∀ l a,P l->P (l++[a]))(l:List α):P l:=by
 have: ∀ n (l:List α),l.length=n->P l:=by
  intro n
  induction n with
  | zero=>intro l hl; rw [eq_nil_of_length_eq_zero hl]; exact h0
  | succ n ih=>
   intro l hl;have hne:l≠[]:=by intro e; subst e; simp at hl
   rw [<-List.dropLast_concat_getLast hne];exact h1 _ _ (ih _ (by simp [hl]))
 exact this _ l rfl
theorem val_append (a b:List UInt8):val (a++b)=val a*10 ^ b.length+val b:=by
 induction b using jY with
 | h0=>simp [val_nil]
 | h1 b c ih=>
  rw [<-append_assoc,val_snoc,val_snoc,ih,length_append,List.length_singleton,pow_succ];have:10*(val a*10 ^ b.length+val b)=val a*(10 ^ b.length*10)+10*val b:=by
   rw [mul_add,<-mul_assoc 10,mul_comm 10 (val a),mul_assoc,mul_comm 10]
  omega
theorem val_lt {l:List UInt8}(h:l.all isDig=true):val l < 10 ^ l.length:=by
 induction l using jY with
 | h0=>simp [val_nil]
 | h1 l c ih=>
  simp only [all_append,all_cons,all_nil,Bool.and_true,and_eq_true] at h;have h1:=ih h.1;have h2:=dv_lt h.2;rw [val_snoc,length_append,List.length_singleton,pow_succ];omega
def toDec (n:Nat):List UInt8:=if n < 10 then [dig n] else toDec (n / 10)++[dig (n % 10)]
termination_by n
decreasing_by omega
theorem toDec_lt {n:Nat}(h:n < 10):toDec n=[dig n]:=by rw [toDec,if_pos h]
theorem toDec_ge {n:Nat}(h:10<=n):toDec n=toDec (n / 10)++[dig (n % 10)]:=by rw [toDec,if_neg (by omega)]
theorem pV {n d:Nat}(hn:0 < n)(hd:d < 10):toDec (10*n+d)=toDec n++[dig d]:=by
 rw [toDec_ge (by omega),show (10*n+d) / 10=n by omega,show (10*n+d) % 10=d by omega]
theorem val_toDec (n:Nat):val (toDec n)=n:=by
 induction n using Nat.strongRecOn with
 | ind n ih=>
  by_cases h:n < 10
  ·rw [toDec_lt h,show [dig n]=[]++[dig n] from rfl,val_snoc,dv_dig h,val_nil]; omega
  ·rw [toDec_ge (by omega),val_snoc,ih (n / 10) (by omega),dv_dig (by omega)]; omega
theorem toDec_inj {m n:Nat}(h:toDec m=toDec n):m=n:=by rw [<-val_toDec m,h,val_toDec]
theorem toDec_ne (n:Nat):toDec n≠[]:=by
 by_cases h:n < 10
 ·rw [toDec_lt h]; simp
 ·rw [toDec_ge (by omega)]; simp
theorem toDec_len_pos (n:Nat):0 < (toDec n).length:=length_pos_iff.2 (toDec_ne n)
theorem toDec_all (n:Nat):(toDec n).all isDig=true:=by
 induction n using Nat.strongRecOn with
 | ind n ih=>
  by_cases h:n < 10
  ·rw [toDec_lt h]; simp [isDig_dig h]
  ·rw [toDec_ge (by omega)]; simp [ih (n / 10) (by omega),isDig_dig (show n % 10 < 10 by omega)]
theorem toDec_lt_pow (n:Nat):n < 10 ^ (toDec n).length:=by
 have:=val_lt (toDec_all n);rwa [val_toDec] at this
theorem zC {n:Nat}(h:10<=n):10 ^ ((toDec n).length - 1)<=n:=by
 induction n using Nat.strongRecOn with
 | ind n ih=>
  rw [toDec_ge h,length_append,List.length_singleton];by_cases h1:n / 10 < 10
  ·rw [toDec_lt h1]; simp; exact h
  ·have h2:=ih (n / 10) (by omega) (by omega);have h3:=toDec_len_pos (n / 10);obtain ⟨k,hk⟩: ∃ k,(toDec (n / 10)).length=k+1:=⟨(toDec (n / 10)).length - 1,by omega⟩
   rw [hk] at h2 ⊢;simp only [add_sub_cancel] at h2 ⊢;rw [pow_succ];omega
theorem toDec_len_le {n k:Nat}(hk:0 < k):(toDec n).length<=k↔n < 10 ^ k:=by
 constructor
 ·intro h;exact lt_of_lt_of_le (toDec_lt_pow n) (pow_le_pow_right (by omega) h)
 ·intro h;by_cases hn:n < 10
  ·rw [toDec_lt hn]; simp; omega
  ·have h1:=zC (n:=n) (by omega);rcases lt_or_ge k (toDec n).length with h2 | h2
   ·have h3:10 ^ k<=10 ^ ((toDec n).length - 1):=pow_le_pow_right (by omega) (by omega);omega
   ·exact h2
def Fk (l:List UInt8):Prop:=l≠[]/\l.all isDig=true/\(1 < l.length->l.head?≠some 48)
theorem Ly {l:List UInt8}(hd:l.all isDig=true)(h0:l≠[])(h:l.head?≠some 48):0 < val l:=by
 induction l using jY with
 | h0=>exact absurd rfl h0
 | h1 l c ih=>
  simp only [all_append,all_cons,all_nil,Bool.and_true,and_eq_true] at hd;rw [val_snoc];by_cases hl:l=[]
  ·subst hl;have hc:c≠48:=by intro e; subst e; simp at h
   have h2:=isDig_iff.1 hd.2;have h3:c.toNat≠48:=fun e=>hc (by apply UInt8.toNat_inj.1; rw [e]; rfl);rw [val_nil]; unfold dv; omega
  ·have:=ih hd.1 hl (by
    cases l with
    | nil=>exact absurd rfl hl
    | cons a l=>simpa using h)
   omega
theorem nI {l:List UInt8}(h:Fk l):toDec (val l)=l:=by
 induction l using jY with
 | h0=>exact absurd rfl h.1
 | h1 l c ih=>
  obtain ⟨_,hd,hz⟩:=h;simp only [all_append,all_cons,all_nil,Bool.and_true,and_eq_true] at hd;rw [val_snoc];by_cases hl:l=[]
  ·subst hl;rw [val_nil,toDec_lt (by have:=dv_lt hd.2; omega)];simp [Ag hd.2]
  ·have hh:l.head?≠some 48:=by
    have:=hz (by have:=length_pos_iff.2 hl; simp; omega)
    cases l with
    | nil=>exact absurd rfl hl
    | cons a l=>simpa using this
   have hp:=Ly hd.1 hl hh;rw [pV hp (dv_lt hd.2),ih ⟨hl,hd.1,fun _=>hh⟩,Ag hd.2]
theorem CA (n:Nat):Fk (toDec n):=by
 refine ⟨toDec_ne n,toDec_all n,?_⟩
 induction n using Nat.strongRecOn with
 | ind n ih=>
  intro hl;by_cases h:n < 10
  ·rw [toDec_lt h] at hl; simp at hl
  ·rw [toDec_ge (by omega)];by_cases h1:n / 10 < 10
   ·rw [toDec_lt h1];simp only [cons_append,List.head?_cons,ne_eq,Option.some.injEq];intro e;have:=congrArg UInt8.toNat e;rw [toNat_dig h1] at this;have h48:(48:UInt8).toNat=48:=rfl;omega
   ·have h2:=ih (n / 10) (by omega) (by rw [toDec_ge (by omega)]; have:=toDec_len_pos (n / 10 / 10); simp; omega)
    cases hh:toDec (n / 10) with
    | nil=>exact absurd hh (toDec_ne _)
    | cons a l=>rw [hh] at h2; simpa using h2
def valid (l:List UInt8):Bool:= !l.isEmpty && decide (l.length<=1000) && !(decide (1 < l.length) && l.head? == some 48) && l.all isDig
theorem valid_iff {l:List UInt8}:valid l=true↔Fk l/\l.length<=1000:=by
 unfold valid Fk
 cases l with
 | nil=>simp
 | cons a l=>
  simp only [List.isEmpty_cons,Bool.not_false,Bool.true_and,and_eq_true,decide_eq_true_eq,Bool.not_eq_true',Bool.and_eq_false_imp,ne_eq,reduceCtorEq,not_false_eq_true,true_and];constructor
  ·rintro ⟨⟨h1,h2⟩,h3⟩;exact ⟨⟨h3,fun h4=>by simpa using h2 h4⟩,h1⟩
  ·rintro ⟨⟨h3,h2⟩,h1⟩;exact ⟨⟨h1,fun h4=>by simpa using h2 h4⟩,h3⟩
theorem valid_toDec {n:Nat}:valid (toDec n)=true↔n < 10 ^ 1000:=by
 rw [valid_iff];have e:=toDec_len_le (n:=n) (k:=1000) (by decide);exact ⟨fun h=>e.1 h.2,fun h=>⟨CA n,e.2 h⟩⟩
theorem valid_ex {l:List UInt8}(h:valid l=true): ∃ n,l=toDec n/\n < 10 ^ 1000/\val l=n:=by
 have h1:=(valid_iff.1 h).1;refine ⟨val l,(nI h1).symm,?_,rfl⟩;rw [<-nI h1] at h;exact valid_toDec.1 h
def bv (b:Nat):List Nat->Nat
 | []=>0
 | d::l=>d+b*bv b l
theorem fx (b:Nat): ∀ x y:List Nat,bv b (x++y)=bv b x+b ^ x.length*bv b y
 | [],y=>by simp [bv]
 | d::x,y=>by
  simp only [cons_append,bv,fx b x y,length_cons,pow_succ];rw [mul_add,mul_comm (b ^ x.length) b,mul_assoc]; omega
theorem bv_snoc (b:Nat)(x:List Nat)(d:Nat):bv b (x++[d])=bv b x+b ^ x.length*d:=by rw [fx]; simp [bv]
theorem bv_lt {b:Nat}: ∀ {x:List Nat},(∀ d∈x,d < b)->bv b x < b ^ x.length
 | [],_=>by simp [bv]
 | d::x,h=>by
  have h1:=bv_lt (b:=b) (x:=x) fun e he=>h e (by simp [he]);have h2:=h d (by simp);simp only [bv,length_cons,pow_succ];have:b*bv b x+b<=b*b ^ x.length:=by
   have:=mul_le_mul_left b (succ_le_of_lt h1);rw [mul_succ] at this; exact this
  rw [mul_comm (b ^ x.length)]; omega
def toB (b n:Nat):List Nat:=if h:1 < b/\0 < n then n % b::toB b (n / b) else []
termination_by n
decreasing_by exact div_lt_self h.2 h.1
theorem toB_zero (b:Nat):toB b 0=[]:=by rw [toB,dif_neg (by omega)]
theorem lL {b n:Nat}(hb:1 < b)(hn:0 < n):toB b n=n % b::toB b (n / b):=by rw [toB,dif_pos ⟨hb,hn⟩]
theorem bv_toB {b:Nat}(hb:1 < b)(n:Nat):bv b (toB b n)=n:=by
 induction n using Nat.strongRecOn with
 | ind n ih=>
  rcases eq_zero_or_pos n with rfl | hn
  ·rw [toB_zero]; rfl
  ·rw [lL hb hn,bv,ih (n / b) (div_lt_self hn hb)]; exact mod_add_div n b
theorem toB_lt {b:Nat}(hb:1 < b)(n:Nat): ∀ d∈toB b n,d < b:=by
 induction n using Nat.strongRecOn with
 | ind n ih=>
  rcases eq_zero_or_pos n with rfl | hn
  ·rw [toB_zero]; simp
  ·rw [lL hb hn];intro d hd;rcases mem_cons.1 hd with rfl | hd
   ·exact mod_lt _ (by omega)
   ·exact ih (n / b) (div_lt_self hn hb) d hd
def Om (b:Nat)(l:List Nat):Prop:=(∀ d∈l,d < b)/\l.getLast?≠some 0
theorem IK {b:Nat}(hb:1 < b)(n:Nat):Om b (toB b n):=by
 refine ⟨toB_lt hb n,?_⟩
 induction n using Nat.strongRecOn with
 | ind n ih=>
  rcases eq_zero_or_pos n with rfl | hn
  ·rw [toB_zero]; simp
  ·rw [lL hb hn];by_cases h0:n / b=0
   ·rw [h0,toB_zero];have:n < b:=by
     rcases lt_or_ge n b with h | h
     ·exact h
     ·have:=Nat.div_pos h (by omega); omega
    simp [mod_eq_of_lt this]; omega
   ·have:=ih (n / b) (div_lt_self hn hb);rw [lL hb (Nat.pos_of_ne_zero h0)] at this ⊢;simpa using this
theorem Jn {b:Nat}(hb:1 < b): ∀ {l:List Nat},Om b l->toB b (bv b l)=l
 | [],_=>toB_zero b
 | d::l,h=>by
  have hd:d < b:=h.1 d (by simp);have hp:0 < bv b (d::l):=by
   have key: ∀ l:List Nat,l≠[]->l.getLast?≠some 0->0 < bv b l:=by
    intro l
    induction l with
    | nil=>intro h; exact absurd rfl h
    | cons a l ih=>
     intro _ h2;by_cases hl:l=[]
     ·subst hl; simp at h2; simp [bv]; omega
     ·have:0 < bv b l:=ih hl (by
       cases l with
       | nil=>exact absurd rfl hl
       | cons c l=>simpa using h2)
      simp only [bv];have:=mul_pos (show 0 < b by omega) this;omega
   exact key _ (by simp) h.2
  have hl:Om b l:=⟨fun e he=>h.1 e (by simp [he]),by
   intro e
   cases l with
   | nil=>simp at e
   | cons c l=>exact h.2 (by simpa using e)⟩
  rw [lL hb hp];simp only [bv];rw [show (d+b*bv b l) % b=d by rw [Nat.add_mul_mod_self_left,mod_eq_of_lt hd],show (d+b*bv b l) / b=bv b l by rw [Nat.add_mul_div_left _ _ (by omega),div_eq_of_lt hd,zero_add],Jn hb hl]
def trimL (l:List Nat):List Nat:=(l.reverse.dropWhile (· == 0)).reverse
theorem G3:trimL []=[]:=rfl
theorem trimL_snoc_zero (l:List Nat):trimL (l++[0])=trimL l:=by simp [trimL]
theorem trimL_snoc_pos (l:List Nat){d:Nat}(h:d≠0):trimL (l++[d])=l++[d]:=by simp [trimL,h]
theorem trimL_eq {b:Nat}(hb:1 < b){l:List Nat}(h: ∀ d∈l,d < b):trimL l=toB b (bv b l):=by
 induction l using jY with
 | h0=>rw [G3]; exact (toB_zero b).symm
 | h1 l d ih=>
  by_cases hd:d=0
  ·subst hd;rw [trimL_snoc_zero,ih fun e he=>h e (by simp [he]),bv_snoc]; simp
  ·rw [trimL_snoc_pos l hd,Jn hb];exact ⟨h,by simpa using hd⟩
theorem toB_eq_nil {b n:Nat}(hb:1 < b):toB b n=[]↔n=0:=by
 constructor
 ·intro h; have:=bv_toB hb n; rw [h] at this; exact this.symm
 ·rintro rfl; exact toB_zero b
theorem toB_len_le {b:Nat}(hb:1 < b){n k:Nat}(h:n < b ^ k):(toB b n).length<=k:=by
 induction k generalizing n with
 | zero=>rw [Nat.pow_zero] at h; rw [show n=0 by omega,toB_zero]; simp
 | succ k ih=>
  rcases eq_zero_or_pos n with rfl | hn
  ·rw [toB_zero]; simp
  ·rw [lL hb hn];have:n / b < b ^ k:=div_lt_of_lt_mul (by rw [pow_succ,mul_comm] at h; exact h);have:=ih this;simp; omega
theorem pi {b:Nat}(hb:1 < b){n:Nat}(hn:0 < n):b ^ ((toB b n).length - 1)<=n:=by
 induction n using Nat.strongRecOn with
 | ind n ih=>
  rw [lL hb hn,length_cons,add_sub_cancel];by_cases h0:n / b=0
  ·rw [h0,toB_zero]; simp; omega
  ·have h1:=ih (n / b) (div_lt_self hn hb) (Nat.pos_of_ne_zero h0);have h2:0 < (toB b (n / b)).length:=length_pos_iff.2 (by rw [Ne,toB_eq_nil hb]; exact h0);obtain ⟨k,hk⟩: ∃ k,(toB b (n / b)).length=k+1:=⟨(toB b (n / b)).length - 1,by omega⟩
   rw [hk] at h1 ⊢;rw [add_sub_cancel] at h1;rw [pow_succ];have h3:=mul_le_mul_right b h1;have h4:=Nat.div_mul_le_self n b;omega
theorem bv_drop (b:Nat)(x:List Nat)(i:Nat):bv b (x.drop i)=x.getD i 0+b*bv b (x.drop (i+1)):=by
 rcases lt_or_ge i x.length with h | h
 ·rw [drop_eq_getElem_cons h,bv,gD,gE h]; rfl
 ·rw [drop_eq_nil_of_le h,drop_eq_nil_of_le (by omega),gD,getElem?_eq_none h]; simp [bv]
theorem getD_lt {b:Nat}{x:List Nat}(hb:0 < b)(h: ∀ d∈x,d < b)(i:Nat):x.getD i 0 < b:=by
 rw [gD]
 cases hx:x[i]? with
 | none=>exact hb
 | some d=>exact h d (List.mem_of_getElem? hx)
def eachF (F:Nat->Nat->Nat->Nat×Nat)(x y:List Nat):Nat->Nat->Nat->List Nat
 | _,0,_=>[]
 | i,k+1,c=>(F (x.getD i 0) (y.getD i 0) c).1::eachF F x y (i+1) k (F (x.getD i 0) (y.getD i 0) c).2
theorem eachF_lt {b:Nat}{F:Nat->Nat->Nat->Nat×Nat}(h: ∀ p q c,(F p q c).1 < b)(x y:List Nat): ∀ k i c,∀ d∈eachF F x y i k c,d < b
 | 0,_,_=>by simp [eachF]
 | k+1,i,c=>by
  intro d hd;rcases mem_cons.1 hd with rfl | hd
  ·exact h _ _ _
  ·exact eachF_lt h x y k _ _ d hd
def plusF (b:Nat)(p q c:Nat):Nat×Nat:=((p+q+c) % b,(p+q+c) / b)
theorem plus_bv {b:Nat}(hb:1 < b){x y:List Nat}(hx: ∀ d∈x,d < b)(hy: ∀ d∈y,d < b): ∀ k i c,x.length < i+k->y.length < i+k->c<=1->0 < k->
  bv b (eachF (plusF b) x y i k c)=bv b (x.drop i)+bv b (y.drop i)+c:=by
 intro k
 induction k with
 | zero=>intro i c _ _ _ h; omega
 | succ k ih=>
  intro i c h1 h2 hc _;have ha:=getD_lt (by omega) hx i;have hbb:=getD_lt (by omega) hy i;rw [bv_drop b x i,bv_drop b y i];simp only [eachF,bv];have hm:=mod_add_div (x.getD i 0+y.getD i 0+c) b;have hc':(plusF b (x.getD i 0) (y.getD i 0) c).2<=1:=by
   show (x.getD i 0+y.getD i 0+c) / b<=1;have:(x.getD i 0+y.getD i 0+c) / b < 2:=div_lt_of_lt_mul (by omega);omega
  rcases eq_zero_or_pos k with rfl | hk
  ·rw [drop_eq_nil_of_le (show x.length<=i+1 by omega),drop_eq_nil_of_le (show y.length<=i+1 by omega)];have e1:x.getD i 0=0:=by rw [gD,getElem?_eq_none (by omega)]; rfl
   have e2:y.getD i 0=0:=by rw [gD,getElem?_eq_none (by omega)]; rfl
   simp only [eachF,bv,plusF,e1,e2,zero_add,mul_zero,add_zero];exact mod_eq_of_lt (by omega)
  ·rw [ih (i+1) _ (by omega) (by omega) hc' hk];simp only [plusF];rw [mul_add,mul_add];omega
def scaleF (b m:Nat)(p _q c:Nat):Nat×Nat:=((p*m+c) % b,(p*m+c) / b)
theorem scale_bv {b m:Nat}(hb:1 < b)(hm:m<=b)(hm0:0 < m){x y:List Nat}(hx: ∀ d∈x,d < b): ∀ k i c,x.length < i+k->c < m->0 < k->
  bv b (eachF (scaleF b m) x y i k c)=bv b (x.drop i)*m+c:=by
 intro k
 induction k with
 | zero=>intro i c _ _ h; omega
 | succ k ih=>
  intro i c h1 hc _;have ha:=getD_lt (by omega) hx i;rw [bv_drop b x i];simp only [eachF,bv];have hmd:=mod_add_div (x.getD i 0*m+c) b;have hc':(scaleF b m (x.getD i 0) (y.getD i 0) c).2 < m:=by
   show (x.getD i 0*m+c) / b < m;refine div_lt_of_lt_mul ?_;have:x.getD i 0*m+m<=b*m:=by
    have:=mul_le_mul_right m (succ_le_of_lt ha);rw [succ_mul] at this; exact this
   omega
  rcases eq_zero_or_pos k with rfl | hk
  ·rw [drop_eq_nil_of_le (show x.length<=i+1 by omega)];have e1:x.getD i 0=0:=by rw [gD,getElem?_eq_none (by omega)]; rfl
   simp only [eachF,bv,scaleF,e1,zero_mul,zero_add,mul_zero,add_zero];exact mod_eq_of_lt (by omega)
  ·rw [ih (i+1) _ (by omega) hc' hk];simp only [scaleF];have e:(x.getD i 0+b*bv b (x.drop (i+1)))*m=x.getD i 0*m+b*(bv b (x.drop (i+1))*m):=by rw [add_mul,mul_assoc]
   rw [e,mul_add];omega
def minusF (b:Nat)(p q c:Nat):Nat×Nat:=((p+b - q - c) % b,1 - (p+b - q - c) / b)
theorem minus_step {b p q c:Nat}(hb:1 < b)(hp:p < b)(hq:q < b)(hc:c<=1):p+b*(minusF b p q c).2=(minusF b p q c).1+q+c/\(minusF b p q c).2<=1:=by
 unfold minusF;dsimp only;rcases lt_or_ge (p+b - q - c) b with h | h
 ·rw [div_eq_of_lt h,mod_eq_of_lt h]; omega
 ·have h2:(p+b - q - c) / b=1:=by
   refine Nat.le_antisymm ?_ ((Nat.le_div_iff_mul_le (by omega)).2 (by omega));have:(p+b - q - c) / b < 2:=div_lt_of_lt_mul (by omega);omega
  have h3:=mod_add_div (p+b - q - c) b;rw [h2] at h3 ⊢;omega
theorem minus_bv {b:Nat}(hb:1 < b){x y:List Nat}(hx: ∀ d∈x,d < b)(hy: ∀ d∈y,d < b): ∀ k i c,x.length<=i+k->y.length<=i+k->c<=1->bv b (y.drop i)+c<=bv b (x.drop i)->
  bv b (eachF (minusF b) x y i k c)+bv b (y.drop i)+c=bv b (x.drop i):=by
 intro k
 induction k with
 | zero=>
  intro i c h1 h2 _ h;rw [drop_eq_nil_of_le (show x.length<=i by omega)] at h ⊢;rw [drop_eq_nil_of_le (show y.length<=i by omega)] at h ⊢;simp only [bv,eachF] at h ⊢;omega
 | succ k ih=>
  intro i c h1 h2 hc h;have ha:=getD_lt (by omega) hx i;have hbb:=getD_lt (by omega) hy i;obtain ⟨s1,s2⟩:=minus_step hb ha hbb hc;rw [bv_drop b x i,bv_drop b y i] at h ⊢;simp only [eachF,bv];have hlt:(minusF b (x.getD i 0) (y.getD i 0) c).1 < b:=mod_lt _ (by omega);have hle:bv b (y.drop (i+1))+(minusF b (x.getD i 0) (y.getD i 0) c).2<=bv b (x.drop (i+1)):=by
   rcases lt_or_ge (bv b (x.drop (i+1))) (bv b (y.drop (i+1))+(minusF b (x.getD i 0) (y.getD i 0) c).2) with g | g
   ·have g2:=mul_le_mul_left b (succ_le_of_lt g);rw [mul_succ,mul_add] at g2;omega
   ·exact g
  have e:=ih (i+1) _ (by omega) (by omega) s2 hle;have e2:=congrArg (b * ·) e;simp only [mul_add] at e2;omega
theorem GZ {B n q v1 v2 rest u2 top U V Ul Vl:Nat}(hU:U=(top*B+u2)*B ^ n+Ul)(hUl:Ul < B ^ n)(hV:V=(v1*B+v2)*B ^ n+Vl)(ht:q*v1+rest=top)(h:rest*B+u2 < q*v2):U < q*V:=by
 have h1:top*B+u2+1<=q*(v1*B+v2):=by
  have e:q*(v1*B+v2)=q*v1*B+q*v2:=by rw [mul_add,mul_assoc]
  have e2:top*B=q*v1*B+rest*B:=by rw [<-ht,add_mul]
  omega
 have h2:=mul_le_mul_right (B ^ n) h1;rw [add_mul,one_mul] at h2;have h3:q*V=q*(v1*B+v2)*B ^ n+q*Vl:=by rw [hV,mul_add,mul_assoc]
 omega
theorem Ew {B n q v1 v2 rest u2 top U V Ul Vl:Nat}(hU:U=(top*B+u2)*B ^ n+Ul)(hV:V=(v1*B+v2)*B ^ n+Vl)(hVl:Vl < B ^ n)(ht:q*v1+rest=top)(hq:q < B)(hv1:0 < v1)(h:q*v2<=rest*B+u2):q*V < U+V:=by
 have h1:q*(v1*B+v2)<=top*B+u2:=by
  have e:q*(v1*B+v2)=q*v1*B+q*v2:=by rw [mul_add,mul_assoc]
  have e2:top*B=q*v1*B+rest*B:=by rw [<-ht,add_mul]
  omega
 have h2:=mul_le_mul_right (B ^ n) h1;have h3:q*V=q*(v1*B+v2)*B ^ n+q*Vl:=by rw [hV,mul_add,mul_assoc]
 have h4:q*Vl<=q*B ^ n:=mul_le_mul_left q (Nat.le_of_lt hVl);have h5:q*B ^ n+B ^ n<=B*B ^ n:=by
  have:=mul_le_mul_right (B ^ n) (succ_le_of_lt hq);rw [succ_mul] at this; exact this
 have h6:B*B ^ n<=v1*B*B ^ n:=by
  have:=mul_le_mul_right (B*B ^ n) (succ_le_of_lt hv1);rw [Nat.succ_eq_add_one,zero_add,one_mul,<-mul_assoc] at this; exact this
 have h7:v1*B*B ^ n<=V:=by rw [hV,add_mul]; omega
 have h8:0 < B ^ n:=Nat.pow_pos (by omega);omega
def oL (B q u v borrow carry:Nat):Nat×Nat×Nat:=((u+B - (q*v+carry) % B - borrow) % B,1 - (u+B - (q*v+carry) % B - borrow) / B,(q*v+carry) / B)
theorem IF {B q u v borrow carry:Nat}(hB:1 < B)(hu:u < B)(hb:borrow<=1):
  u+B*((oL B q u v borrow carry).2.1+(oL B q u v borrow carry).2.2)=(oL B q u v borrow carry).1+q*v+(borrow+carry)/\(oL B q u v borrow carry).2.1<=1/\(oL B q u v borrow carry).1 < B:=by
 have hp:=mod_lt (q*v+carry) (show 0 < B by omega);have hpm:=mod_add_div (q*v+carry) B;have h:=minus_step (b:=B) (p:=u) (q:=(q*v+carry) % B) (c:=borrow) hB hu hp hb;unfold minusF at h;dsimp only at h;unfold oL;dsimp only;refine ⟨?_,h.2,mod_lt _ (by omega)⟩;rw [mul_add];omega
def cmpN (m n:Nat):Int:=if m < n then -1 else if m=n then 0 else 1
theorem cmpN_lt {m n:Nat}(h:m < n):cmpN m n = -1:=if_pos h
theorem cmpN_gt {m n:Nat}(h:n < m):cmpN m n=1:=by unfold cmpN; rw [if_neg (by omega),if_neg (by omega)]
theorem cmpN_eq (m:Nat):cmpN m m=0:=by unfold cmpN; rw [if_neg (by omega),if_pos rfl]
theorem cmpN_neg {m n:Nat}:cmpN m n < 0↔m < n:=by
 unfold cmpN; split
 ·simp; omega
 ·split <;> simp <;> omega
theorem cmpN_ge {m n:Nat}:cmpN m n>=0↔n<=m:=by
 unfold cmpN; split
 ·simp; omega
 ·split <;> simp <;> omega
theorem toDec_len_lt {m n:Nat}(h:(toDec m).length < (toDec n).length):m < n:=by
 rcases lt_or_ge m n with h1 | h1
 ·exact h1
 ·have h2:=(toDec_len_le (n:=n) (k:=(toDec m).length) (toDec_len_pos m)).2 (Nat.lt_of_le_of_lt h1 (toDec_lt_pow m));omega
theorem val_lt_of_prefix {a b:List UInt8}(hb:b.all isDig=true)(ha:a.all isDig=true)(hl:a.length=b.length){i:Nat}{c d:UInt8}(hp:a.take i=b.take i)(hc:a[i]?=some c)(hd:b[i]?=some d)(hcd:c < d):val a < val b:=by
 obtain ⟨h1,rfl⟩:=List.getElem?_eq_some_iff.1 hc;obtain ⟨h2,rfl⟩:=List.getElem?_eq_some_iff.1 hd;have ea:a=a.take i++(a[i]::a.drop (i+1)):=by rw [<-drop_eq_getElem_cons h1,take_append_drop]
 have eb:b=a.take i++(b[i]::b.drop (i+1)):=by rw [hp,<-drop_eq_getElem_cons h2,take_append_drop]
 have hA:val a=val (a.take i)*10 ^ (a.drop i).length+val (a.drop i):=by rw [<-val_append,take_append_drop]
 have hB:val b=val (a.take i)*10 ^ (b.drop i).length+val (b.drop i):=by rw [hp,<-val_append,take_append_drop]
 have ka:val (a.drop i)=dv a[i]*10 ^ (a.drop (i+1)).length+val (a.drop (i+1)):=by
  rw [drop_eq_getElem_cons h1,<-List.singleton_append,val_append]; simp [val]
 have kb:val (b.drop i)=dv b[i]*10 ^ (b.drop (i+1)).length+val (b.drop (i+1)):=by
  rw [drop_eq_getElem_cons h2,<-List.singleton_append,val_append]; simp [val]
 have hd1:(a.drop (i+1)).all isDig=true:=by
  rw [all_eq_true] at ha ⊢;exact fun x hx=>ha x (mem_of_mem_drop hx)
 have hlt:=val_lt hd1;have hdig:dv a[i]+1<=dv b[i]:=by
  have g1:=isDig_iff.1 (all_eq_true.1 ha _ (getElem_mem h1));have g2:=UInt8.lt_iff_toNat_lt.1 hcd;unfold dv; omega
 have e1:(a.drop i).length=(b.drop i).length:=by simp [hl]
 have e2:(a.drop (i+1)).length=(b.drop (i+1)).length:=by simp [hl]
 rw [hA,hB,ka,kb,e1,<-e2];rw [e2] at hlt ⊢;have h5:=mul_le_mul_right (10 ^ (b.drop (i+1)).length) hdig;rw [add_mul,one_mul] at h5;omega
def digs (l:List UInt8):List Nat:=l.reverse.map dv
theorem digs_len (l:List UInt8):(digs l).length=l.length:=by simp [digs]
theorem digs_lt {l:List UInt8}(h:l.all isDig=true): ∀ d∈digs l,d < 10:=by
 intro d hd;simp only [digs,List.mem_map,List.mem_reverse] at hd;obtain ⟨c,hc,rfl⟩:=hd;exact dv_lt (all_eq_true.1 h c hc)
theorem bv_digs (l:List UInt8):bv 10 (digs l)=val l:=by
 induction l using jY with
 | h0=>rfl
 | h1 l c ih=>
  have:digs (l++[c])=dv c::digs l:=by simp [digs]
  rw [this,bv,ih,val_snoc]; omega
def txt (l:List Nat):List UInt8:=l.reverse.map dig
theorem Fv (l:List Nat):(txt l).length=l.length:=by simp [txt]
theorem Mq {l:List Nat}(h: ∀ d∈l,d < 10):val (txt l)=bv 10 l:=by
 induction l with
 | nil=>rfl
 | cons d l ih=>
  have:txt (d::l)=txt l++[dig d]:=by simp [txt]
  rw [this,val_snoc,ih (fun x hx=>h x (by simp [hx])),dv_dig (h d (by simp)),bv]; omega
theorem Lm {l:List Nat}(h: ∀ d∈l,d < 10):(txt l).all isDig=true:=by
 rw [all_eq_true];intro c hc;simp only [txt,List.mem_map,List.mem_reverse] at hc;obtain ⟨d,hd,rfl⟩:=hc;exact isDig_dig (h d hd)
theorem txt_dec {l:List Nat}(h: ∀ d∈l,d < 10)(h0:l≠[])(hz:1 < l.length->l.getLast?≠some 0):txt l=toDec (bv 10 l):=by
 rw [<-Mq h];refine (nI ⟨fun e=>h0 ?_,Lm h,fun hl=> ?_⟩).symm
 ·have:=congrArg List.length e;rw [Fv] at this;exact eq_nil_of_length_eq_zero this
 ·rw [Fv] at hl;have h1:=hz hl;rw [txt,List.head?_map,List.head?_reverse]
  cases hg:l.getLast? with
  | none=>simp
  | some d=>
   rw [hg] at h1;have hd:=h d (List.mem_of_getLast? hg);simp only [Option.map_some,ne_eq,Option.some.injEq] at h1 ⊢;intro e;have:=congrArg UInt8.toNat e;rw [toNat_dig hd] at this;have h48:(48:UInt8).toNat=48:=rfl;omega
theorem bv_take_zero {l:List Nat}{n:Nat}(h: ∀ i,n<=i->l.getD i 0=0):bv 10 (l.take n)=bv 10 l:=by
 induction n generalizing l with
 | zero=>
  have: ∀ l:List Nat,(∀ i,0<=i->l.getD i 0=0)->bv 10 l=0:=by
   intro l
   induction l with
   | nil=>intro _; rfl
   | cons a l ih=>
    intro h;have h1:=h 0 (by omega);rw [bv,ih (fun i _=>by have:=h (i+1) (by omega); simpa using this)];simpa using h1
  rw [this l h]; rfl
 | succ n ih=>
  cases l with
  | nil=>rfl
  | cons a l=>
   simp only [List.take_succ_cons,bv];rw [ih (fun i hi=>by have:=h (i+1) (by omega); simpa using this)]
def lessF (p q c:Nat):Nat×Nat:=if p < q+c then (p+10 - q - c,1) else (p - q - c,0)
theorem JI {p q c:Nat}(hp:p < 10)(hq:q < 10)(hc:c<=1):lessF p q c=minusF 10 p q c:=by
 unfold lessF minusF;split
 ·rw [mod_eq_of_lt (by omega),div_eq_of_lt (by omega)]
 ·have h1:(p+10 - q - c) / 10=1:=by omega
  have h2:(p+10 - q - c) % 10=p - q - c:=by omega
  rw [h1,h2]
theorem pR {x y:List Nat}(hx: ∀ d∈x,d < 10)(hy: ∀ d∈y,d < 10): ∀ k i c,c<=1->eachF lessF x y i k c=eachF (minusF 10) x y i k c
 | 0,_,_,_=>rfl
 | k+1,i,c,hc=>by
  have h1:=JI (getD_lt (by omega) hx i) (getD_lt (by omega) hy i) hc;simp only [eachF];rw [h1,pR hx hy k (i+1) _ (minus_step (by omega) (getD_lt (by omega) hx i) (getD_lt (by omega) hy i) hc).2]
theorem less_bv {x y:List Nat}(hx: ∀ d∈x,d < 10)(hy: ∀ d∈y,d < 10)(hl:y.length<=x.length)(h:bv 10 y<=bv 10 x):bv 10 (eachF lessF x y 0 x.length 0)=bv 10 x - bv 10 y:=by
 rw [pR hx hy _ _ _ (by omega)];have:=minus_bv (b:=10) (by omega) hx hy x.length 0 0 (by omega) (by omega) (by omega) (by simpa using h);simp only [drop_zero] at this;omega
theorem eachF_len (F:Nat->Nat->Nat->Nat×Nat)(x y:List Nat): ∀ k i c,(eachF F x y i k c).length=k
 | 0,_,_=>rfl
 | k+1,i,c=>by simp [eachF,eachF_len F x y k]
theorem less_lt {x y:List Nat}(hx: ∀ d∈x,d < 10)(hy: ∀ d∈y,d < 10)(k i c:Nat)(hc:c<=1): ∀ d∈eachF lessF x y i k c,d < 10:=by
 rw [pR hx hy _ _ _ hc];exact eachF_lt (fun p q c=>mod_lt _ (by omega)) x y k i c
theorem toDec_zero:toDec 0=[48]:=by rw [toDec_lt (by omega)]; rfl
theorem GB:toDec 1=[49]:=by rw [toDec_lt (by omega)]; rfl
theorem toDec_eq_zero {n:Nat}:toDec n=[48]↔n=0:=by
 rw [<-toDec_zero]; exact ⟨toDec_inj,fun h=>by rw [h]⟩
theorem toDec_eq_one {n:Nat}:toDec n=[49]↔n=1:=by
 rw [<-GB]; exact ⟨toDec_inj,fun h=>by rw [h]⟩
theorem toDec_push {r:Nat}{c:UInt8}(hc:isDig c=true):(if toDec r=[48] then [c] else toDec r++[c])=toDec (10*r+dv c):=by
 have hd:=dv_lt hc;by_cases h:r=0
 ·subst h;rw [if_pos toDec_zero,mul_zero,zero_add,toDec_lt hd,Ag hc]
 ·rw [if_neg (fun e=>h (toDec_eq_zero.1 e)),pV (by omega) hd,Ag hc]
theorem val_take_succ {l:List UInt8}{i:Nat}{c:UInt8}(h:l[i]?=some c):val (l.take (i+1))=10*val (l.take i)+dv c:=by
 obtain ⟨h1,rfl⟩:=List.getElem?_eq_some_iff.1 h;rw [List.take_succ_eq_append_getElem h1,val_snoc]
theorem div_round {V n d k:Nat}(hn:0 < n)(h1:k*n<=10*(V % n)+d)(h2:10*(V % n)+d < (k+1)*n):(10*V+d) / n=10*(V / n)+k/\(10*V+d) % n=10*(V % n)+d - k*n:=by
 have e:=mod_add_div V n;have e2:10*V+d=n*(10*(V / n)+k)+(10*(V % n)+d - k*n):=by
  have g1:n*(10*(V / n)+k)=10*(n*(V / n))+k*n:=by rw [mul_add,Nat.mul_left_comm,mul_comm n k]
  omega
 have hlt:10*(V % n)+d - k*n < n:=by rw [add_mul,one_mul] at h2; omega
 rw [e2];constructor
 ·rw [Nat.mul_add_div hn,div_eq_of_lt hlt]; rfl
 ·rw [Nat.mul_add_mod,mod_eq_of_lt hlt]
theorem div_digit {V n d k:Nat}(hn:0 < n)(hd:d < 10)(h1:k*n<=10*(V % n)+d):k < 10:=by
 have:=mod_lt V hn;rcases lt_or_ge k 10 with h | h
 ·exact h
 ·have:=mul_le_mul_right n h;omega
theorem HF {l:List UInt8}(h: ∀ c∈l,c=48):val l=0:=by
 induction l using jY with
 | h0=>rfl
 | h1 l c ih=>
  rw [val_snoc,ih (fun x hx=>h x (by simp [hx])),h c (by simp)]; rfl
theorem strip_dec {l:List UInt8}{k:Nat}(hd:l.all isDig=true)(hk:k < l.length)(hz: ∀ i,i < k->l[i]?=some 48)(hs:k+1 < l.length->l[k]?≠some 48):l.drop k=toDec (val l):=by
 have h1:val l=val (l.drop k):=by
  have:=val_append (l.take k) (l.drop k);rw [take_append_drop] at this;rw [this,HF (fun c hc=>by
   obtain ⟨i,hi⟩:=List.getElem?_of_mem hc;rw [getElem?_take] at hi;split at hi
   ·next h=>rw [hz i h] at hi; exact (oI hi).symm
   ·cases hi),zero_mul,zero_add]
 rw [h1];refine (nI ⟨fun e=> ?_,?_,fun hl=> ?_⟩).symm
 ·have:=congrArg List.length e;simp at this; omega
 ·rw [all_eq_true] at hd ⊢;exact fun x hx=>hd x (mem_of_mem_drop hx)
 ·rw [length_drop] at hl;rw [List.head?_drop];exact hs (by omega)
theorem gcd_step (m n:Nat):Nat.gcd m n=Nat.gcd n (m % n):=by rw [Nat.gcd_comm m n,Nat.gcd_rec n m,Nat.gcd_comm]
end Go.Num
end
section
set_option linter.unusedVariables false
set_option maxRecDepth 100000
namespace Go.Proofs.YtoabjjimjldcfaaGreatDoor
open Go Go.Ab
theorem M7:SS.P.underlying 9=some .string:=by kernel_rfl
theorem tP (l:List UInt8){h:Heap}{i:Int}(h0:0<=i)(h1:i < l.length):aQ SS.P 9 (aa l) (.int .i64 i)=some (.int .u8 ((l.getD i.toNat 0).toNat:Nat)):=jh M7 l _ h0 h1
theorem KA {c:UInt8}(h1: ¬ (c.toNat:Int) < 48)(h2: ¬ (c.toNat:Int) > 57):Num.isDig c=true:=by
 unfold Num.isDig; simp; omega
theorem zd {c:UInt8}(h:(c.toNat:Int) < 48\/(c.toNat:Int) > 57):Num.isDig c=false:=by
 unfold Num.isDig; simp; omega
theorem oQ {l:List UInt8}{i:Nat}(hi:i < l.length)(h1:(l.take i).all Num.isDig=true)(h2:Num.isDig (l.getD i 0)=true):(l.take (i+1)).all Num.isDig=true:=by
 rw [List.take_succ_eq_append_getElem hi,all_append,h1];rw [gD,gE hi] at h2;simpa using h2
theorem nY {l:List UInt8}{i:Nat}(hi:i < l.length)(h2:Num.isDig (l.getD i 0)=false):l.all Num.isDig=false:=by
 rw [gD,gE hi] at h2;exact List.all_eq_false.2 ⟨l[i],getElem_mem hi,by simpa using h2⟩
theorem vw {l:List UInt8}(h:1000 < l.length):Num.valid l=false:=by
 unfold Num.valid;rw [decide_eq_false (by omega: ¬ l.length<=1000)]; simp
theorem jP {l:List UInt8}(h:1 < l.length)(h0:l.getD 0 0=48):Num.valid l=false:=by
 unfold Num.valid
 cases l with
 | nil=>rfl
 | cons a l=>
  have h0:a=48:=h0;subst h0;rw [decide_eq_true h]; simp
theorem nZ {l:List UInt8}(h0:l≠[])(h1:l.length<=1000)(h2:1 < l.length->l.getD 0 0≠48):Num.valid l=l.all Num.isDig:=by
 unfold Num.valid
 cases l with
 | nil=>exact absurd rfl h0
 | cons a l=>
  rw [decide_eq_true h1];by_cases h:1 < (a::l).length
  ·have h3:a≠48:=h2 h;rw [decide_eq_true h]; simp [h3]
  ·rw [decide_eq_false h]; simp
theorem u8_eq {c:UInt8}:((c.toNat:Int) == 48)=true↔c=48:=by
 rw [beq_iff_eq];refine ⟨fun h=>UInt8.toNat_inj.1 ?_,fun h=>by rw [h]; rfl⟩;have h48:(48:UInt8).toNat=48:=rfl;omega
theorem cd (l:List UInt8)(h:Heap):FW SS 139 [aa l] h (fun v h'=>v = .bool (Num.valid l)/\h'=h):=by
 by_cases hlen:l.length<=1000
 case neg=>
  refine tr l h _ (ae (fun h1=> ?_) (fun h1=>ae (fun h2=> ?_) (fun h2=> ?_)))
  ·obtain rfl:l=[]:=by simpa using h1
   exact ⟨rfl,rfl⟩
  ·exact ⟨by rw [vw (by omega)],rfl⟩
  ·have:=dF h2; omega
 have L:=fun (hv:Num.valid l=l.all Num.isDig)=>ol l (fun mz i g=>0<=i/\i<=l.length/\mz=l.length - i.toNat/\(l.take i.toNat).all Num.isDig=true/\g=h) (fun v h'=>v = .bool (Num.valid l)/\h'=h) (by
  intro mz i; intros; rename_i g hi;obtain ⟨h1,h2,h3,h4,rfl⟩:=hi;refine ae (fun h5=> ?_) (fun h5=> ?_)
  ·have h5:=dT h5;have hin:i.toNat < l.length:=by omega
   refine ⟨_,tP (h:=g) l h1 h5,ae (fun h6=> ?_) (fun h6=>⟨_,tP (h:=g) l h1 h5,ae (fun h7=> ?_) (fun h7=> ?_)⟩)⟩
   ·exact ⟨by rw [hv,nY hin (zd (.inl (dT h6)))],rfl⟩
   ·exact ⟨by rw [hv,nY hin (zd (.inr (dT h7)))],rfl⟩
   ·have hw:wrap .i64 (i+1)=i+1:=am (by omega) (by omega);refine bp (mz - 1) (by omega) ?_;rw [hw];refine ⟨by omega,by omega,by omega,?_,rfl⟩;rw [show (i+1).toNat=i.toNat+1 by omega];exact oQ hin h4 (KA (dF h6) (dF h7))
  ·have h5:=dF h5;refine ⟨?_,rfl⟩;rw [hv,<-h4,take_of_length_le (by omega)])
 refine tr l h _ (ae (fun h1=> ?_) (fun h1=>ae (fun h2=> ?_) (fun h2=> ?_)))
 ·obtain rfl:l=[]:=by simpa using h1
  exact ⟨rfl,rfl⟩
 ·have:=dT h2; omega
 ·have h1:l≠[]:=by simpa using h1
  have hpos:=length_pos_iff.2 h1;refine ae (fun h3=>⟨_,tP (h:=h) l (by omega) (by omega),ae (fun h4=> ?_) (fun h4=> ?_)⟩) (fun h3=> ?_)
  ·exact ⟨by rw [jP (by have:=dT h3; omega) (u8_eq.1 h4)],rfl⟩
  ·exact L (nZ h1 hlen fun _ e=>by have h4:(((l.getD 0 0).toNat:Int) == 48)=false:=h4; rw [u8_eq.2 e] at h4; cases h4) l.length ⟨by omega,by omega,by simp,by simp,rfl⟩
  ·exact L (nZ h1 hlen fun e=>by have:=dF h3; omega) l.length ⟨by omega,by omega,by simp,by simp,rfl⟩
theorem bL (l:List UInt8)(h:Heap):FW SS 149 [aa l] h (fun v h'=>v = .bool (Num.valid l)/\h'=h):=by
 by_cases hlen:l.length<=1000
 case neg=>
  refine sZ l h _ (ae (fun h1=> ?_) (fun h1=>ae (fun h2=> ?_) (fun h2=> ?_)))
  ·have h1:=dT h1; omega
  ·exact ⟨by rw [vw (by omega)],rfl⟩
  ·have:=dF h2; omega
 have L:=fun (hv:Num.valid l=l.all Num.isDig)=>oq l (fun mz i g=>0<=i/\i<=l.length/\mz=l.length - i.toNat/\(l.take i.toNat).all Num.isDig=true/\g=h) (fun v h'=>v = .bool (Num.valid l)/\h'=h) (by
  intro mz i; intros; rename_i g hi;obtain ⟨h1,h2,h3,h4,rfl⟩:=hi;refine ae (fun h5=> ?_) (fun h5=> ?_)
  ·have h5:=dT h5;have hin:i.toNat < l.length:=by omega
   refine ⟨_,tP (h:=g) l h1 h5,ae (fun h6=> ?_) (fun h6=>⟨_,tP (h:=g) l h1 h5,ae (fun h7=> ?_) (fun h7=> ?_)⟩)⟩
   ·exact ⟨by rw [hv,nY hin (zd (.inl (dT h6)))],rfl⟩
   ·exact ⟨by rw [hv,nY hin (zd (.inr (dT h7)))],rfl⟩
   ·have hw:wrap .i64 (i+1)=i+1:=am (by omega) (by omega);refine bp (mz - 1) (by omega) ?_;rw [hw];refine ⟨by omega,by omega,by omega,?_,rfl⟩;rw [show (i+1).toNat=i.toNat+1 by omega];exact oQ hin h4 (KA (dF h6) (dF h7))
  ·have h5:=dF h5;refine ⟨?_,rfl⟩;rw [hv,<-h4,take_of_length_le (by omega)])
 refine sZ l h _ (ae (fun h1=> ?_) (fun h1=>ae (fun h2=> ?_) (fun h2=> ?_)))
 ·have h1:=dT h1;obtain rfl:l=[]:=eq_nil_of_length_eq_zero (by omega);exact ⟨rfl,rfl⟩
 ·have:=dT h2; omega
 ·have h1:=dF h1;have h1:l≠[]:=fun e=>by subst e; simp at h1
  have hpos:=length_pos_iff.2 h1;refine ⟨_,tP (h:=h) l (by omega) (by omega),ae (fun h4=>ae (fun h3=> ?_) (fun h3=> ?_)) (fun h4=> ?_)⟩
  ·exact ⟨by rw [jP (by have:=dT h3; omega) (u8_eq.1 h4)],rfl⟩
  ·exact L (nZ h1 hlen fun e=>by have:=dF h3; omega) l.length ⟨by omega,by omega,by simp,by simp,rfl⟩
  ·exact L (nZ h1 hlen fun _ e=>by have h4:(((l.getD 0 0).toNat:Int) == 48)=false:=h4; rw [u8_eq.2 e] at h4; cases h4) l.length ⟨by omega,by omega,by simp,by simp,rfl⟩
theorem C0 {a b:Nat}(h:((a:Int) != b)=true):a≠b:=by
 intro e; subst e; simp at h
theorem EJ {a b:Nat}(h:((a:Int) != b)=false):a=b:=by
 by_cases e:a=b
 ·exact e
 ·exfalso;have:(a:Int)≠b:=by omega
  simp [this] at h
theorem kH (m n:Nat)(hm:(Num.toDec m).length < 9223372036854775807)(hn:(Num.toDec n).length < 9223372036854775807)(h:Heap)(w:Wf h):FW SS 155 [aa (Num.toDec m),aa (Num.toDec n)] h (fun v h'=>v = .int .i64 (Num.cmpN m n)/\Ok h h'):=by
 have L:=fun (hl:(Num.toDec m).length=(Num.toDec n).length)=>mA (Num.toDec m) (Num.toDec n) (fun mz i g=>0<=i/\i<=(Num.toDec m).length/\mz=(Num.toDec m).length - i.toNat/\(Num.toDec m).take i.toNat=(Num.toDec n).take i.toNat/\Ok h g) (fun v h'=>v = .int .i64 (Num.cmpN m n)/\Ok h h') (by
  intro mz i; intros; rename_i g hi;obtain ⟨h1,h2,h3,h4,ok⟩:=hi;refine ae (fun h5=> ?_) (fun h5=> ?_)
  ·have h5:=dT h5;have hin:i.toNat < (Num.toDec m).length:=by omega
   have hin2:i.toNat < (Num.toDec n).length:=by omega
   have ga:(Num.toDec m)[i.toNat]?=some ((Num.toDec m).getD i.toNat 0):=by rw [gD,gE hin]; rfl
   have gb:(Num.toDec n)[i.toNat]?=some ((Num.toDec n).getD i.toNat 0):=by rw [gD,gE hin2]; rfl
   refine ⟨_,tP (h:=g) _ h1 h5,_,tP (h:=g) _ h1 (by omega),ae (fun h6=> ?_) (fun h6=> ?_)⟩
   ·refine ⟨_,tP (h:=g) _ h1 h5,_,tP (h:=g) _ h1 (by omega),ae (fun h7=> ?_) (fun h7=> ?_)⟩
    ·have h7:=dT h7;have:=Num.val_lt_of_prefix (Num.toDec_all n) (Num.toDec_all m) hl h4 ga gb (UInt8.lt_iff_toNat_lt.2 (by omega));rw [Num.val_toDec,Num.val_toDec] at this;exact ⟨by rw [Num.cmpN_lt this],(ok.room 7).room 7⟩
    ·have h7:=dF h7;have h6:=C0 h6;have:=Num.val_lt_of_prefix (Num.toDec_all m) (Num.toDec_all n) hl.symm h4.symm gb ga (UInt8.lt_iff_toNat_lt.2 (by omega));rw [Num.val_toDec,Num.val_toDec] at this;exact ⟨by rw [Num.cmpN_gt this],(ok.room 7).room 7⟩
   ·have h6:=EJ h6;have hw:wrap .i64 (i+1)=i+1:=am (by omega) (by omega);refine bp (mz - 1) (by omega) ?_;rw [hw];refine ⟨by omega,by omega,by omega,?_,ok.room 7⟩;rw [show (i+1).toNat=i.toNat+1 by omega,List.take_add_one,List.take_add_one,h4,ga,gb,UInt8.toNat_inj.1 h6]
  ·have h5:=dF h5;rw [take_of_length_le (by omega),take_of_length_le (by omega)] at h4;exact ⟨by rw [Num.toDec_inj h4,Num.cmpN_eq],ok⟩)
 refine wO _ _ h _ (ae (fun h1=>ae (fun h2=> ?_) (fun h2=> ?_)) (fun h1=> ?_))
 ·exact ⟨by rw [Num.cmpN_lt (Num.toDec_len_lt (by have:=dT h2; omega))],Ok.refl w⟩
 ·have h1:=C0 h1;exact ⟨by rw [Num.cmpN_gt (Num.toDec_len_lt (by have:=dF h2; omega))],Ok.refl w⟩
 ·have h1:=EJ h1;exact L h1 (Num.toDec m).length ⟨by omega,by omega,by simp,by simp,Ok.refl w⟩
def iv (d:Nat):Value:= .int .i64 (d:Int)
theorem gP:SS.P.underlying 48=some (.slice 3):=by kernel_rfl
theorem tF:an SS.P 3=some 1:=by kernel_rfl
theorem CU:SS.P.underlying 3=some (.int .i64):=by kernel_rfl
theorem BW:Go.Ab.isAgg SS.P 3=false:=by kernel_rfl
noncomputable def re3:TypeInfo:=(cL SS.P 3).getD default
theorem Ko:cL SS.P 3=some re3:=by kernel_rfl
theorem AO:re3.size=1:=by kernel_rfl
theorem yh:re3.bytes=8:=by kernel_rfl
theorem mW (l:List Nat)(i:Nat)(h:i < l.length):(l.map iv).getD i undef = .int .i64 (l.getD i 0:Nat):=by
 simp [gD,getElem?_map,gE h,iv]
theorem mQ {h:Heap}{a:Option Addr}{n c:Nat}{l:List Nat}(r:Rd h 3 (.slice a n c) (l.map iv))(i:Nat):FW SS 152 [.slice a n c,.int .i64 (i:Int)] h (fun v h'=>v = .int .i64 (l.getD i 0:Nat)/\h'=h):=by
 have hn:=r.len;rw [lM] at hn;refine K9 a n c i h _ (ae (fun h1=> ?_) (fun h1=> ?_))
 ·have h1:=dT h1;obtain ⟨p,h2,h3⟩:=r.at_ gP tF CU BW (k:= .i64) (i:=(i:Int)) (by omega) (by rw [lM]; omega);rw [toNat_natCast,mW l i (by omega)] at h3;exact ⟨p,h2,_,h3,rfl,rfl⟩
 ·have h1:=dF h1;refine ⟨?_,rfl⟩;rw [gD,getElem?_eq_none (by omega)]; rfl
noncomputable def hH:FD:=bF Tryz.f156 [([1,1,1,0,1,0,0],[0,1,5,6,7])]
abbrev ef (a:OA)(n c:Nat)(b:OA)(m d:Nat)(k cc:Nat)(r:OA)(rn rc:Nat):LV:=[(.slice a n c),(.slice b m d),(.slice r rn rc),(iA cc),(iA k)]
theorem Df (a:OA)(n c:Nat)(b:OA)(m d:Nat)(h:Heap)(Q:VH)(hx:LL SS hH [1,1,1,0,1,0,0] (ef a n c b m d 0 0 none 0 0) h (KK SS hH [1,1,1,0,1,0] [] (EE SS hH Q))):FW SS 156 [(.slice a n c),(.slice b m d)] h Q:=bG hH Tryz.func156 (aj hx)
theorem pS (a:OA)(n c:Nat)(b:OA)(m d:Nat)  (Inv:Nat->Nat->Nat->OA->Nat->Nat->Heap->Prop) (Q:VH) (step: ∀ (mz:Nat)(k cc:Nat)(r:OA)(rn rc:Nat)(zz:Nat->Value)(h:Heap),Inv mz k cc r rn rc h->au (decide (((k:Int):Int) < (n:Int))) (FW SS 152 [(.slice a n c),(iA k)] h fun v1 h2=>yI .i64 v1 fun n3=>FW SS 152 [(.slice b m d),(iA k)] h2 fun v4 h5=>yI .i64 v4 fun n6=>au (decide ((wrap .i64 (wrap .i64 (n3 - n6) - (cc:Int)):Int) < 0)) (xR (ak SS.P 48 1 [(0,(.int .i64 (wrap .i64 (wrap .i64 (wrap .i64 (n3 - n6) - (cc:Int))+10))))]) h5 fun B7 n8 c9 g10=>xE (ay SS.P 48 48 (.slice r rn rc) (sA (h5.next) n8 c9) g10) g10 fun a11 n12 c13 u14 g15=>ax (wp (ef a n c b m d) Inv) mz [(.slice a n c),(.slice b m d),(.slice a11 n12 c13),(.int .i64 1),(.int .i64 (wrap .i64 ((k:Int)+1)))] g15) (xR (ak SS.P 48 1 [(0,(.int .i64 (wrap .i64 (wrap .i64 (n3 - n6) - (cc:Int)))))]) h5 fun B16 n17 c18 g19=>xE (ay SS.P 48 48 (.slice r rn rc) (sA (h5.next) n17 c18) g19) g19 fun a20 n21 c22 u23 g24=>ax (wp (ef a n c b m d) Inv) mz [(.slice a n c),(.slice b m d),(.slice a20 n21 c22),(.int .i64 0),(.int .i64 (wrap .i64 ((k:Int)+1)))] g24)) (Q (.slice r rn rc) h)) (mz:Nat) {k cc:Nat} {r:OA} {rn rc:Nat} {h:Heap} (hi:Inv mz k cc r rn rc h):LL SS hH [1,1,1,0,1,0,0] (ef a n c b m d k cc r rn rc) h (KK SS hH [1,1,1,0,1,0] [] (EE SS hH Q)):=
 xK (ef a n c b m d) Inv (fun mz k cc r rn rc zz h hi=>aj (step mz k cc r rn rc zz h hi)) mz hi
noncomputable def bZ:FD:=bF Tryz.f154 [([1,1,0,0,0],[0,3]),([1,1,1,1,0,1,0,0],[0,4,5])]
abbrev iJ (a:OA)(n c:Nat)(z:Int):LV:=[(.slice a n c),(.int .i64 z)]
abbrev d9 (a:OA)(n c:Nat)(i:Int)(r:OA)(rn rc:Nat):LV:=[(.slice a n c),(.slice r rn rc),(.int .i64 i)]
theorem C4 (a:OA)(n c:Nat)(h:Heap)(Q:VH)(hx:LL SS bZ [1,1,0,0,0] [(.slice a n c),(iA n)] h (KK SS bZ [1,1,0,0] [] (EE SS bZ Q))):FW SS 154 [(.slice a n c)] h Q:=bG bZ Tryz.func154 (aj hx)
theorem qa (a:OA)(n c:Nat)  (Inv:Nat->Int->Heap->Prop) (Q:VH) (step: ∀ (mz:Nat)(z:Int)(zz:Nat->Value)(h:Heap),Inv mz z h->au (decide ((z:Int) > 1)) (xP (ag SS.P 48 (.slice a n c) (.int .i64 (wrap .i64 (z - 1)))) fun p1=>xI .i64 (ah SS.P 3 h (.pointer (some p1))) fun n2=>au (((n2:Int) == 0)) (ax (fA (iJ a n c) Inv) mz [(.slice a n c),(.int .i64 (wrap .i64 (z - 1)))] h) (LL SS bZ [1,1,1,1,0,1,0,0] (d9 a n c (wrap .i64 (z - 1)) none 0 0) h (KK SS bZ [1,1,1,1,0,1,0] [] (EE SS bZ Q)))) (LL SS bZ [1,1,1,1,0,1,0,0] (d9 a n c (wrap .i64 (z - 1)) none 0 0) h (KK SS bZ [1,1,1,1,0,1,0] [] (EE SS bZ Q)))) (mz:Nat) {z:Int} {h:Heap} (hi:Inv mz z h):LL SS bZ [1,1,0,0,0] (iJ a n c z) h (KK SS bZ [1,1,0,0] [] (EE SS bZ Q)):=
 bH (iJ a n c) Inv (fun mz z zz h hi=>aj (step mz z zz h hi)) mz hi
theorem pW (a:OA)(n c:Nat)  (Inv:Nat->Int->OA->Nat->Nat->Heap->Prop) (Q:VH) (step: ∀ (mz:Nat)(i:Int)(r:OA)(rn rc:Nat)(zz:Nat->Value)(h:Heap),Inv mz i r rn rc h->au (decide ((i:Int)>=0)) (xP (ag SS.P 48 (.slice a n c) (.int .i64 i)) fun p3=>xI .i64 (ah SS.P 3 h (.pointer (some p3))) fun n4=>xR (ak SS.P 157 1 [(0,(.int .u8 (wrap .u8 (wrap .i64 (48+n4)))))]) h fun B5 n6 c7 g8=>xE (ay SS.P 157 157 (.slice r rn rc) (sA (h.next) n6 c7) g8) g8 fun a9 n10 c11 u12 g13=>ax (kY (d9 a n c) Inv) mz [(.slice a n c),(.slice a9 n10 c11),(.int .i64 (wrap .i64 (i - 1)))] g13) (au ((((rn:Int):Int) == 0)) (Q (aa [48]) h) (xS (tH SS.P 157 9 (.slice r rn rc) h) fun l14=>Q (aa l14) h))) (mz:Nat) {i:Int} {r:OA} {rn rc:Nat} {h:Heap} (hi:Inv mz i r rn rc h):LL SS bZ [1,1,1,1,0,1,0,0] (d9 a n c i r rn rc) h (KK SS bZ [1,1,1,1,0,1,0] [] (EE SS bZ Q)):=
 jW (d9 a n c) Inv (fun mz i r rn rc zz h hi=>aj (step mz i r rn rc zz h hi)) mz hi
end Go.Proofs.YtoabjjimjldcfaaGreatDoor
end
section
namespace Go.Num
def subL (B q:Nat)(u v:List Nat):Nat->Nat->Nat->Nat->List Nat×Nat×Nat
 | _,0,b,c=>([],b,c)
 | i,k+1,b,c=>
  let s:=oL B q (u.getD i 0) (v.getD i 0) b c
  let r:=subL B q u v (i+1) k s.2.1 s.2.2
  (s.1::r.1,r.2)
theorem subL_len (B q:Nat)(u v:List Nat): ∀ k i b c,(subL B q u v i k b c).1.length=k
 | 0,_,_,_=>rfl
 | k+1,i,b,c=>by simp [subL,subL_len B q u v k]
theorem subL_lt {B q:Nat}(hB:1 < B)(u v:List Nat): ∀ k i b c,∀ d∈(subL B q u v i k b c).1,d < B
 | 0,_,_,_=>by simp [subL]
 | k+1,i,b,c=>by
  intro d hd;simp only [subL] at hd;rcases mem_cons.1 hd with rfl | hd
  ·exact mod_lt _ (by omega)
  ·exact subL_lt hB u v k _ _ _ d hd
theorem qC (b:Nat)(x:List Nat)(i k:Nat):bv b ((x.drop i).take (k+1))=x.getD i 0+b*bv b ((x.drop (i+1)).take k):=by
 rcases lt_or_ge i x.length with h | h
 ·rw [drop_eq_getElem_cons h,List.take_succ_cons,bv,gD,gE h]; rfl
 ·rw [drop_eq_nil_of_le h,drop_eq_nil_of_le (by omega),gD,getElem?_eq_none h]; simp [bv]
theorem zA {B q:Nat}(hB:1 < B){u v:List Nat}(hu: ∀ d∈u,d < B): ∀ k i b c,b<=1->
  bv B ((u.drop i).take k)+B ^ k*((subL B q u v i k b c).2.1+(subL B q u v i k b c).2.2)=bv B (subL B q u v i k b c).1+q*bv B ((v.drop i).take k)+(b+c)/\(subL B q u v i k b c).2.1<=1
 | 0,i,b,c,hb=>by simp [subL,bv,hb]
 | k+1,i,b,c,hb=>by
  obtain ⟨s1,s2,s3⟩:=IF (B:=B) (q:=q) (u:=u.getD i 0) (v:=v.getD i 0) (borrow:=b) (carry:=c) hB (getD_lt (by omega) hu i) hb;obtain ⟨ih,ih2⟩:=zA hB (q:=q) (v:=v) hu k (i+1) _ (oL B q (u.getD i 0) (v.getD i 0) b c).2.2 s2;rw [qC,qC];simp only [subL,bv];refine ⟨?_,ih2⟩;have e:=congrArg (B * ·) ih;simp only [mul_add] at e s1 ⊢;have e1: ∀ z,B ^ (k+1)*z=B*(B ^ k*z):=fun z=>by rw [pow_succ,mul_comm (B ^ k),mul_assoc]
  have e2:q*(B*bv B ((v.drop (i+1)).take k))=B*(q*bv B ((v.drop (i+1)).take k)):=by rw [Nat.mul_left_comm]
  rw [e1,e1,e2];omega
theorem xb {B:Nat}{l:List Nat}{n:Nat}(h:l.length=n):bv B (l.take n)=bv B l:=by rw [take_of_length_le (by omega)]
theorem F7 {B q:Nat}(hB:1 < B){u v:List Nat}{n:Nat}(hu: ∀ d∈u,d < B)(hul:u.length=n+1)(hvl:v.length=n):
  (subL B q u v 0 (n+1) 0 0).2.2=0->((subL B q u v 0 (n+1) 0 0).2.1=0->bv B u=bv B (subL B q u v 0 (n+1) 0 0).1+q*bv B v)/\
  ((subL B q u v 0 (n+1) 0 0).2.1≠0->bv B u+B ^ (n+1)=bv B (subL B q u v 0 (n+1) 0 0).1+q*bv B v/\bv B u < q*bv B v):=by
 intro hc;obtain ⟨e,hb⟩:=zA hB (q:=q) (v:=v) hu (n+1) 0 0 0 (by omega);rw [drop_zero,drop_zero,xb hul,take_of_length_le (by omega:v.length<=n+1),hc] at e;refine ⟨fun h0=> ?_,fun h0=> ?_⟩
 ·rw [h0] at e; omega
 ·have hb1:(subL B q u v 0 (n+1) 0 0).2.1=1:=by omega
  rw [hb1,mul_one] at e;have hlt:=bv_lt (subL_lt (q:=q) hB u v (n+1) 0 0 0);rw [subL_len] at hlt;omega
theorem vW {B q:Nat}(hB:1 < B){u v:List Nat}(hq:q < B)(hv: ∀ d∈v,d < B): ∀ k i b c,c < B->v.length<=i+k->0 < k->v.length < i+k->(subL B q u v i k b c).2.2=0
 | 0,_,_,_,_,_,h,_=>by omega
 | 1,i,b,c,hc,_,_,hl=>by
  simp only [subL,oL];have:v.getD i 0=0:=by rw [gD,getElem?_eq_none (by omega)]; rfl
  rw [this,mul_zero,zero_add];exact div_eq_of_lt hc
 | k+2,i,b,c,hc,_,_,hl=>by
  have h2:=getD_lt (by omega) hv i;simp only [subL];have:=vW hB (u:=u) hq hv (k+1) (i+1) (oL B q (u.getD i 0) (v.getD i 0) b c).2.1 (oL B q (u.getD i 0) (v.getD i 0) b c).2.2 (by
   show (q*v.getD i 0+c) / B < B;refine div_lt_of_lt_mul ?_;have h3:q*v.getD i 0<=(B - 1)*(B - 1):=mul_le_mul (by omega) (by omega);have h4:(B - 1)*(B - 1)+(B - 1)=(B - 1)*B:=by rw [<-mul_succ]; congr 1; omega
   have h5:(B - 1)*B+B=B*B:=by rw [<-succ_mul]; congr 1; omega
   omega) (by omega) (by omega) (by omega)
  simpa only [subL] using this
theorem Kp {B:Nat}(hB:1 < B){u v:List Nat}{n Q V U:Nat}(hu: ∀ d∈u,d < B)(hv: ∀ d∈v,d < B)(hul:u.length=n+1)(hvl:v.length=n)(h1:U+B ^ (n+1)=bv B u+(Q+1)*V)(h2:U < (Q+1)*V)(h3:(Q+1)*V < U+V)(hV:V=bv B v):
  bv B ((eachF (plusF B) u v 0 (n+1) 0))+Q*V=U:=by
 have hs:=plus_bv hB (x:=u) (y:=v) hu hv (n+2) 0 0 (by omega) (by omega) (by omega) (by omega);simp only [drop_zero,add_zero] at hs;have split: ∀ k i c,eachF (plusF B) u v i (k+1) c=eachF (plusF B) u v i k c++(eachF (plusF B) u v i (k+1) c).drop k:=by
  intro k
  induction k with
  | zero=>intro i c; simp [eachF]
  | succ k ih=>
   intro i c;have:=ih (i+1) (plusF B (u.getD i 0) (v.getD i 0) c).2;show _::eachF (plusF B) u v (i+1) (k+1) _=(_::eachF (plusF B) u v (i+1) k _)++(_::eachF (plusF B) u v (i+1) (k+1) _).drop (k+1);rw [cons_append,List.drop_succ_cons];exact congrArg _ this
 rw [split (n+1) 0 0,fx,eachF_len] at hs;have hlt:=bv_lt (eachF_lt (b:=B) (F:=plusF B) (fun p q c=>mod_lt _ (by omega)) u v (n+1) 0 0);rw [eachF_len] at hlt;rw [add_mul,one_mul] at h1 h2 h3;have hul':=bv_lt hu;rw [hul] at hul';have hvl':=bv_lt hv;rw [hvl] at hvl';have hpow:B ^ n<=B ^ (n+1):=pow_le_pow_right (by omega) (by omega);have key:bv B ((eachF (plusF B) u v 0 (n+1+1) 0).drop (n+1))=1:=by
  generalize bv B ((eachF (plusF B) u v 0 (n+1+1) 0).drop (n+1))=z at hs;rcases Nat.lt_trichotomy z 1 with hz | hz | hz
  ·have:z=0:=by omega
   subst this;rw [mul_zero] at hs;omega
  ·exact hz
  ·have:=mul_le_mul_left (B ^ (n+1)) hz;rw [mul_succ,mul_one] at this;omega
 rw [key,mul_one] at hs;omega
theorem C1 {B:Nat}: ∀ (l:List Nat)(i d:Nat),i < l.length->bv B (l.set i d)+B ^ i*l.getD i 0=bv B l+B ^ i*d
 | [],i,d,h=>by simp at h
 | a::l,0,d,_=>by simp [bv]; omega
 | a::l,i+1,d,h=>by
  have ih:=congrArg (B * ·) (C1 (B:=B) l i d (by simpa using h));simp only [List.set_cons_succ,bv,List.getD_cons_succ,pow_succ,mul_add] at ih ⊢;have e: ∀ z,B ^ i*B*z=B*(B ^ i*z):=fun z=>by rw [mul_comm (B ^ i),mul_assoc]
  rw [e,e]; omega
theorem KF {B:Nat}{l:List Nat}(h: ∀ d∈l,d < B){i d:Nat}(hd:d < B): ∀ x∈l.set i d,x < B:=fun x hx=>by
 rcases List.mem_or_eq_of_mem_set hx with h1 | h1
 ·exact h x h1
 ·rw [h1]; exact hd
theorem mu {B n:Nat}(_:1 < B): ∀ {l:List Nat},bv B l < B ^ n->bv B (l.drop n)=0
 | l,h=>by
  rcases lt_or_ge n l.length with h1 | h1
  ·have e:=fx B (l.take n) (l.drop n);rw [take_append_drop,length_take,min_eq_left (by omega)] at e;rcases eq_zero_or_pos (bv B (l.drop n)) with h2 | h2
   ·exact h2
   ·have:=mul_le_mul_left (B ^ n) h2;rw [mul_one] at this;omega
  ·rw [drop_eq_nil_of_le h1]; rfl
theorem vJ (B:Nat)(l:List Nat)(n:Nat):bv B l=bv B (l.take n)+B ^ (min n l.length)*bv B (l.drop n):=by
 have e:=fx B (l.take n) (l.drop n);rwa [take_append_drop,length_take] at e
structure DivInv (B n V XK:Nat)(u q:List Nat)(j:Nat):Prop where
 ul: ∀ d∈u,d < B
 ql: ∀ d∈q,d < B
 len:u.length=q.length+n
 jle:j<=q.length
 lo:bv B (u.drop j) < V
 eq:XK=bv B u+V*bv B q
 qz: ∀ i,i < j->q.getD i 0=0
theorem DivInv.window {B n V XK:Nat}{u q:List Nat}{at':Nat}(hB:1 < B)(hV:V<=B ^ n)(h:DivInv B n V XK u q (at'+1)):
  bv B ((u.drop at').take (n+1))=bv B (u.drop at')/\bv B ((u.drop at').take (n+1)) < B*V/\((u.drop at').take (n+1)).length=n+1:=by
 have hl:=h.len;have hj:=h.jle;have h1:bv B (u.drop at')=u.getD at' 0+B*bv B (u.drop (at'+1)):=bv_drop B u at';have h2:=getD_lt (by omega) h.ul at';have h3:=h.lo;have h4:bv B (u.drop at') < B*V:=by
  have:=mul_le_mul_left B (succ_le_of_lt h3);rw [mul_succ] at this;omega
 have h5:bv B ((u.drop at').drop (n+1))=0:=by
  refine mu hB (lt_of_lt_of_le h4 ?_);rw [pow_succ,mul_comm];exact mul_le_mul_right B hV
 have h6:=vJ B (u.drop at') (n+1);rw [h5,mul_zero,add_zero] at h6;refine ⟨h6.symm,by omega,?_⟩;rw [length_take,length_drop]; omega
theorem DivInv.step {B n V XK:Nat}{u q w:List Nat}{at' d:Nat}(hB:1 < B)(hV:V<=B ^ n)(h:DivInv B n V XK u q (at'+1))(hw: ∀ x∈w,x < B)(hwl:w.length=n+1)(hd:d < B)
  (he:bv B ((u.drop at').take (n+1))=bv B w+d*V) (hlt:bv B w < V):DivInv B n V XK (u.take at'++w++u.drop (at'+(n+1))) (q.set at' d) at':=by
 have hl:=h.len;have hj:=h.jle;obtain ⟨w1,w2,w3⟩:=h.window hB hV;have hz:bv B (u.drop (at'+(n+1)))=0:=by
  rw [<-List.drop_drop];refine mu hB ?_;rw [<-w1];refine lt_of_lt_of_le w2 ?_;rw [pow_succ,mul_comm];exact mul_le_mul_right B hV
 have htl:(u.take at').length=at':=by rw [length_take]; omega
 have hdrop:(u.take at'++w++u.drop (at'+(n+1))).drop at'=w++u.drop (at'+(n+1)):=by
  rw [append_assoc,List.drop_append_of_le_length (by omega),drop_of_length_le (by omega),nil_append]
 refine ⟨?_,KF h.ql hd,?_,by rw [length_set]; omega,?_,?_,?_⟩
 ·intro x hx;simp only [List.mem_append] at hx;rcases hx with (hx | hx) | hx
  ·exact h.ul x (mem_of_mem_take hx)
  ·exact hw x hx
  ·exact h.ul x (mem_of_mem_drop hx)
 ·rw [length_append,length_append,htl,hwl,length_drop,length_set]; omega
 ·rw [hdrop,fx,hz,mul_zero,add_zero]; exact hlt
 ·have e1:=fx B (u.take at') (u.drop at');rw [take_append_drop,htl,<-w1,he] at e1;have e2:bv B (u.take at'++w++u.drop (at'+(n+1)))=bv B (u.take at')+B ^ at'*bv B w:=by
   rw [append_assoc,fx,fx,hz,htl,mul_zero,add_zero]
  have e3:=C1 (B:=B) q at' d (by omega);rw [h.qz at' (by omega),mul_zero,add_zero] at e3;rw [h.eq,e1,e2,e3,mul_add,mul_add];have e4:B ^ at'*(d*V)=V*(B ^ at'*d):=by rw [mul_comm V,mul_assoc]
  omega
 ·intro i hi;have:=h.qz i (by omega);rw [gD] at this ⊢;rw [List.getElem?_set_ne (by omega)];exact this
theorem DivInv.done {B n V XK:Nat}{u q:List Nat}(h:DivInv B n V XK u q 0):bv B q=XK / V/\bv B u=XK % V:=by
 have h1:=h.lo;rw [drop_zero] at h1;rw [h.eq];constructor
 ·rw [add_comm,Nat.mul_add_div (by omega),div_eq_of_lt h1]; rfl
 ·rw [add_comm,Nat.mul_add_mod,mod_eq_of_lt h1]
theorem DivInv.start {B n m k X Y:Nat}{u:List Nat}(hB:1 < B)(hu: ∀ d∈u,d < B)(hul:u.length=m+1)(hn:n<=m)(hX:X < B ^ m)(hY:B ^ (n - 1)<=Y)(hn0:0 < n)(hk:0 < k)(he:bv B u=X*k):DivInv B n (Y*k) (X*k) u (List.replicate (m+1 - n) 0) (m+1 - n):=by
 refine ⟨hu,fun d hd=>by rw [(List.mem_replicate.1 hd).2]; omega,by rw [length_replicate]; omega,by rw [length_replicate]; exact le_refl _,?_,?_,fun i hi=> ?_⟩
 ·have h1:=vJ B u (m+1 - n);rw [he,min_eq_left (by omega)] at h1;rcases lt_or_ge (bv B (u.drop (m+1 - n))) (Y*k) with h2 | h2
  ·exact h2
  ·have h3:=mul_le_mul_left (B ^ (m+1 - n)) h2;have h4:B ^ m*k<=B ^ (m+1 - n)*(Y*k):=by
    have e:B ^ m=B ^ (m+1 - n)*B ^ (n - 1):=by rw [<-pow_add]; congr 1; omega
    rw [e,mul_assoc];exact mul_le_mul_left _ (mul_le_mul_right k hY)
   have h5:X*k < B ^ m*k:=Nat.mul_lt_mul_of_pos_right hX hk;omega
 ·have:bv B (List.replicate (m+1 - n) 0)=0:=by
   induction (m+1 - n) with
   | zero=>rfl
   | succ j ih=>rw [List.replicate_succ,bv,ih]; rfl
  rw [this,he,mul_zero,add_zero]
 ·rw [gD,List.getElem?_replicate]; split <;> rfl
theorem mul_div_mul_k {X Y k:Nat}(hk:0 < k):X*k / (Y*k)=X / Y/\X*k % (Y*k)=X % Y*k:=
 ⟨Nat.mul_div_mul_right X Y hk,Nat.mul_mod_mul_right k X Y⟩
theorem BA {B k left a:Nat}(hk:0 < k)(hl:left < k)(ha:a < B):(left*B+a) / k < B/\(left*B+a) % k < k/\(left*B+a) / k*k+(left*B+a) % k=left*B+a:=by
 refine ⟨div_lt_of_lt_mul ?_,mod_lt _ hk,by rw [mul_comm]; exact Nat.div_add_mod _ _⟩;have:=mul_le_mul_right B (succ_le_of_lt hl);rw [succ_mul] at this;omega
structure SmallInv (B k R:Nat)(r:List Nat)(j left:Nat):Prop where
 rl: ∀ d∈r,d < B
 jle:j<=r.length
 lt:left < k
 eq:bv B (r.drop j)*k*B ^ j+left*B ^ j+bv B (r.take j)=R
theorem SmallInv.step {B k R:Nat}{r:List Nat}{at' left:Nat}(hk:0 < k)(h:SmallInv B k R r (at'+1) left):SmallInv B k R (r.set at' ((left*B+r.getD at' 0) / k)) at' ((left*B+r.getD at' 0) % k):=by
 have hj:=h.jle;have hB:0 < B:=by
  have:=h.rl (r.getD at' 0) (by
   rw [gD,gE (by omega)];exact getElem_mem _)
  omega
 obtain ⟨s1,s2,s3⟩:=BA (B:=B) hk h.lt (getD_lt hB h.rl at');refine ⟨KF h.rl s1,by rw [length_set]; omega,s2,?_⟩;rw [List.take_set_of_le (by omega),bv_drop,List.drop_set_of_lt (by omega)];have e1:(r.set at' ((left*B+r.getD at' 0) / k)).getD at' 0=(left*B+r.getD at' 0) / k:=by
  rw [gD,List.getElem?_set_self (by omega)]; rfl
 rw [e1,<-h.eq];have e2:bv B (r.take (at'+1))=bv B (r.take at')+B ^ at'*r.getD at' 0:=by
  rw [List.take_succ_eq_append_getElem (by omega),bv_snoc,length_take,min_eq_left (by omega),gD,gE (by omega)]; rfl
 rw [e2,pow_succ];generalize bv B (r.drop (at'+1))=D at *;generalize r.getD at' 0=a at *;generalize (left*B+a) / k=dq at *;generalize (left*B+a) % k=dr at *;have g1:(dq+B*D)*k*B ^ at'=dq*k*B ^ at'+D*k*(B ^ at'*B):=by
  rw [add_mul,add_mul];congr 1;rw [mul_comm B D,mul_assoc D B k,mul_comm B k,<-mul_assoc,mul_assoc (D*k) B,mul_comm B (B ^ at')]
 have g2:dq*k*B ^ at'+dr*B ^ at'=left*(B ^ at'*B)+a*B ^ at':=by
  rw [<-add_mul,s3,add_mul,mul_assoc,mul_comm B]
 rw [g1,mul_comm (B ^ at') a];omega
theorem SmallInv.done {B k R:Nat}{r:List Nat}{left:Nat}(hk:0 < k)(h:SmallInv B k R r 0 left):bv B r=R / k:=by
 have e:=h.eq;simp only [drop_zero,Nat.pow_zero,mul_one,take_zero,bv,add_zero] at e;rw [<-e,mul_comm,Nat.mul_add_div hk,div_eq_of_lt h.lt]; rfl
section
theorem qB (B:Nat)(l:List Nat)(i:Nat)(h:i<=l.length):bv B l=bv B (l.take i)+B ^ i*bv B (l.drop i):=by
 have:=vJ B l i;rwa [min_eq_left h] at this
theorem i8 {B:Nat}{l:List Nat}{i:Nat}(h:l.length=i+1):bv B (l.drop i)=l.getD i 0:=by
 rw [bv_drop,drop_eq_nil_of_le (by omega)]; rfl
theorem iE {B:Nat}{l:List Nat}{i:Nat}(h:l.length=i+2):bv B (l.drop i)=l.getD (i+1) 0*B+l.getD i 0:=by
 rw [bv_drop,i8 (by omega),mul_comm]; omega
theorem pw {B:Nat}{l:List Nat}{i:Nat}(h:l.length=i+3):bv B (l.drop i)=(l.getD (i+2) 0*B+l.getD (i+1) 0)*B+l.getD i 0:=by
 rw [bv_drop,iE (by omega),mul_comm B,show i+1+1=i+2 by omega]; omega
structure Trial (B n:Nat)(u v:List Nat)(q rest:Nat):Prop where
 eq:q*v.getD (n - 1) 0+rest=u.getD n 0*B+u.getD (n - 1) 0
 hi:bv B u < (q+1)*bv B v
section
variable {B n:Nat} {u v:List Nat} {q rest:Nat}
theorem Trial.start (hB:1 < B)(hul:u.length=n+1)(hvl:v.length=n)(hn:0 < n)(hu: ∀ d∈u,d < B)(h0:0 < v.getD (n - 1) 0):Trial B n u v ((u.getD n 0*B+u.getD (n - 1) 0) / v.getD (n - 1) 0) ((u.getD n 0*B+u.getD (n - 1) 0) % v.getD (n - 1) 0):=by
 refine ⟨by rw [mul_comm]; exact Nat.div_add_mod _ _,?_⟩;have h1:=qB B u (n - 1) (by omega);have h2:=qB B v (n - 1) (by omega);have e1:bv B (u.drop (n - 1))=u.getD n 0*B+u.getD (n - 1) 0:=by
  have:=iE (B:=B) (l:=u) (i:=n - 1) (by omega);rwa [show n - 1+1=n by omega] at this
 rw [i8 (by omega)] at h2;rw [e1] at h1;rw [h1,h2];have h3:=bv_lt (b:=B) (x:=u.take (n - 1)) (fun d hd=>hu d (mem_of_mem_take hd));rw [length_take,min_eq_left (by omega)] at h3;generalize u.getD n 0*B+u.getD (n - 1) 0=top;generalize v.getD (n - 1) 0=v1 at h0 ⊢;have h4:top < (top / v1+1)*v1:=by
  have:=Nat.div_add_mod top v1;have:=mod_lt top h0;rw [add_mul,one_mul,mul_comm]; omega
 have h5:=mul_le_mul_left (B ^ (n - 1)) (succ_le_of_lt h4);rw [mul_succ] at h5;rw [mul_add];have e:(top / v1+1)*(B ^ (n - 1)*v1)=B ^ (n - 1)*((top / v1+1)*v1):=Nat.mul_left_comm _ _ _;omega
theorem Trial.lower (hq:bv B u < q*bv B v)(h:Trial B n u v q rest):Trial B n u v (q - 1) (rest+v.getD (n - 1) 0):=by
 have hq0:0 < q:=by
  rcases eq_zero_or_pos q with h1 | h1
  ·subst h1; rw [zero_mul] at hq; omega
  ·exact h1
 obtain ⟨p,rfl⟩: ∃ p,q=p+1:=⟨q - 1,by omega⟩
 refine ⟨?_,by simpa using hq⟩;have:=h.eq;rw [add_mul,one_mul] at this;rw [add_sub_cancel]; omega
theorem Trial.great (hU:bv B u < B*bv B v)(hq:B<=q):bv B u < q*bv B v:=lt_of_lt_of_le hU (mul_le_mul_right _ hq)
theorem Trial.second (hul:u.length=n+1)(hvl:v.length=n)(hn:1 < n)(hu: ∀ d∈u,d < B)(h:Trial B n u v q rest)(hs:rest*B+u.getD (n - 2) 0 < q*v.getD (n - 2) 0):bv B u < q*bv B v:=by
 have h1:=qB B u (n - 2) (by omega);have h2:=qB B v (n - 2) (by omega);have e1:bv B (u.drop (n - 2))=(u.getD n 0*B+u.getD (n - 1) 0)*B+u.getD (n - 2) 0:=by
  have:=pw (B:=B) (l:=u) (i:=n - 2) (by omega);rwa [show n - 2+1=n - 1 by omega,show n - 2+2=n by omega] at this
 have e2:bv B (v.drop (n - 2))=v.getD (n - 1) 0*B+v.getD (n - 2) 0:=by
  have:=iE (B:=B) (l:=v) (i:=n - 2) (by omega);rwa [show n - 2+1=n - 1 by omega] at this
 rw [e1,add_comm,mul_comm] at h1;rw [e2,add_comm,mul_comm] at h2;have h3:=bv_lt (b:=B) (x:=u.take (n - 2)) (fun d hd=>hu d (mem_of_mem_take hd));rw [length_take,min_eq_left (by omega)] at h3;exact GZ h1 h3 h2 h.eq hs
theorem Trial.last (hB:1 < B)(hul:u.length=n+1)(hvl:v.length=n)(hn:0 < n)(hv: ∀ d∈v,d < B)(h0:0 < v.getD (n - 1) 0)(h:Trial B n u v q rest)(hq:q < B)(hs:1 < n->q*v.getD (n - 2) 0<=rest*B+u.getD (n - 2) 0):q*bv B v < bv B u+bv B v:=by
 rcases lt_or_ge 1 n with h1 | h1
 ·have h3:=qB B u (n - 2) (by omega);have h4:=qB B v (n - 2) (by omega);have e1:bv B (u.drop (n - 2))=(u.getD n 0*B+u.getD (n - 1) 0)*B+u.getD (n - 2) 0:=by
   have:=pw (B:=B) (l:=u) (i:=n - 2) (by omega);rwa [show n - 2+1=n - 1 by omega,show n - 2+2=n by omega] at this
  have e2:bv B (v.drop (n - 2))=v.getD (n - 1) 0*B+v.getD (n - 2) 0:=by
   have:=iE (B:=B) (l:=v) (i:=n - 2) (by omega);rwa [show n - 2+1=n - 1 by omega] at this
  rw [e1,add_comm,mul_comm] at h3;rw [e2,add_comm,mul_comm] at h4;have h5:=bv_lt (b:=B) (x:=v.take (n - 2)) (fun d hd=>hv d (mem_of_mem_take hd));rw [length_take,min_eq_left (by omega)] at h5;exact Ew h3 h4 h5 h.eq hq h0 (hs h1)
 ·obtain rfl:n=1:=by omega
  have e1:=iE (B:=B) (l:=u) (i:=0) (by omega);have e2:=i8 (B:=B) (l:=v) (i:=0) (by omega);rw [drop_zero] at e1 e2;have:=h.eq;rw [e1,e2];simp only [zero_add,sub_self] at this h0 ⊢;omega
theorem trial_broke (hq:q < B){v2 u2:Nat}(hv:v2 < B)(hr:B<=rest):q*v2<=rest*B+u2:=by
 have h1:q*v2<=B*B:=mul_le_mul (by omega) (by omega);have h2:B*B<=rest*B:=mul_le_mul_right B hr;omega
end
theorem digit_done {B q n:Nat}(hB:1 < B){u v:List Nat}(hu: ∀ d∈u,d < B)(hv: ∀ d∈v,d < B)(hul:u.length=n+1)(hvl:v.length=n)(hq:q < B)(h1:bv B u < (q+1)*bv B v)(h2:q*bv B v < bv B u+bv B v):
  (subL B q u v 0 (n+1) 0 0).2.2=0/\
  ((subL B q u v 0 (n+1) 0 0).2.1=0->q=bv B u / bv B v/\bv B (subL B q u v 0 (n+1) 0 0).1=bv B u % bv B v)/\
  ((subL B q u v 0 (n+1) 0 0).2.1≠0->0 < q/\q - 1=bv B u / bv B v/\bv B (eachF (plusF B) (subL B q u v 0 (n+1) 0 0).1 v 0 (n+1) 0)=bv B u % bv B v):=by
 have hc:=vW hB (u:=u) hq hv (n+1) 0 0 0 (by omega) (by omega) (by omega) (by omega);obtain ⟨d1,d2⟩:=F7 hB hu hul hvl hc (q:=q);have key: ∀ {k r:Nat},bv B u=r+k*bv B v->r < bv B v->k=bv B u / bv B v/\r=bv B u % bv B v:=by
  intro k r e hr;rw [e,mul_comm k,add_comm];constructor
  ·rw [Nat.mul_add_div (by omega),div_eq_of_lt hr]; rfl
  ·rw [Nat.mul_add_mod,mod_eq_of_lt hr]
 refine ⟨hc,fun h=> ?_,fun h=> ?_⟩
 ·have e:=d1 h;refine key e ?_;rw [add_mul,one_mul] at h1;omega
 ·obtain ⟨e1,e2⟩:=d2 h;have hq0:0 < q:=by
   rcases eq_zero_or_pos q with h3 | h3
   ·subst h3; rw [zero_mul] at e2; omega
   ·exact h3
  obtain ⟨Q,rfl⟩: ∃ Q,q=Q+1:=⟨q - 1,by omega⟩
  have e3:=Kp hB (Q:=Q) (V:=bv B v) (U:=bv B u) (subL_lt (q:=Q+1) hB u v (n+1) 0 0 0) hv (subL_len _ _ _ _ _ _ _ _) hvl e1 e2 h2 rfl;refine ⟨hq0,?_⟩;rw [add_sub_cancel];refine key e3.symm ?_;rw [add_mul,one_mul] at e2;omega
end
def cr (F:Nat->Nat->Nat->Nat×Nat)(x y:List Nat)(i c:Nat):Nat->Nat
 | 0=>c
 | k+1=>(F (x.getD (i+k) 0) (y.getD (i+k) 0) (cr F x y i c k)).2
theorem AR (F:Nat->Nat->Nat->Nat×Nat)(x y:List Nat)(i c:Nat): ∀ k,cr F x y (i+1) (F (x.getD i 0) (y.getD i 0) c).2 k=cr F x y i c (k+1)
 | 0=>rfl
 | k+1=>by
  show (F (x.getD (i+1+k) 0) (y.getD (i+1+k) 0) (cr F x y (i+1) _ k)).2=(F (x.getD (i+(k+1)) 0) (y.getD (i+(k+1)) 0) (cr F x y i c (k+1))).2;rw [AR F x y i c k,show i+1+k=i+(k+1) by omega]
theorem eachF_snoc (F:Nat->Nat->Nat->Nat×Nat)(x y:List Nat): ∀ k i c,eachF F x y i (k+1) c=eachF F x y i k c++[(F (x.getD (i+k) 0) (y.getD (i+k) 0) (cr F x y i c k)).1]
 | 0,i,c=>rfl
 | k+1,i,c=>by
  have ih:=eachF_snoc F x y k (i+1) (F (x.getD i 0) (y.getD i 0) c).2;rw [AR,show i+1+k=i+(k+1) by omega] at ih;rw [eachF,ih]; rfl
theorem cr_le {F:Nat->Nat->Nat->Nat×Nat}{m:Nat}(h: ∀ p q c,c<=m->(F p q c).2<=m)(x y:List Nat)(i c:Nat)(hc:c<=m): ∀ k,cr F x y i c k<=m
 | 0=>hc
 | k+1=>h _ _ _ (cr_le h x y i c hc k)
end Go.Num
end
section
set_option linter.unusedVariables false
set_option maxRecDepth 100000
namespace Go.Proofs.YtoabjjimjldcfaaGreatDoor
open Go Go.Ab
theorem jR (z:Int):ak SS.P 48 1 [(0,.int .i64 z)]=some (.cells [.int .i64 z] 3 1 true,gU 1 1):=by kernel_rfl
theorem Ny (z:Int):ak SS.P 157 1 [(0,.int .u8 z)]=some (.cells [.int .u8 z] 5 1 true,gU 1 1):=by kernel_rfl
theorem tf:SS.P.underlying 157=some (.slice 5):=by kernel_rfl
theorem Rn:SS.P.underlying 5=some (.int .u8):=by kernel_rfl
theorem OZ:an SS.P 5=some 1:=by kernel_rfl
theorem Rw:Go.Ab.isAgg SS.P 5=false:=by kernel_rfl
noncomputable def re5:TypeInfo:=(cL SS.P 5).getD default
theorem OD:cL SS.P 5=some re5:=by kernel_rfl
theorem JQ:re5.size=1:=by kernel_rfl
theorem Ip:re5.bytes=1:=by kernel_rfl
theorem vF {h0 h:Heap}(w0:Wf h0)(ok:Ok h0 h){v:Value}{vs:List Value}(o:OwnR h0 h 3 v vs)(z:Int)(hl:vs.length<=100000):
  ∃ (b:Option Addr)(n c:Nat)(u:Upd),ay SS.P 48 48 v (.slice (some ⟨h.next,0,none⟩) 1 1) (h.push (.cells [.int .i64 z] 3 1 true))=some (.slice b n c,u)/\n=vs.length+1/\OwnR h0 (u.app (h.push (.cells [.int .i64 z] 3 1 true))) 3 (.slice b n c) (vs++[.int .i64 z])/\Ok h0 (u.app (h.push (.cells [.int .i64 z] 3 1 true))):=
 OwnR.snoc gP Ko AO w0 ok o rfl (by rw [yh]; omega) (by omega)
theorem EW {h0 h:Heap}(w0:Wf h0)(ok:Ok h0 h){v:Value}{vs:List Value}(o:OwnR h0 h 5 v vs)(z:Int)(hl:vs.length<=100000):
  ∃ (b:Option Addr)(n c:Nat)(u:Upd),ay SS.P 157 157 v (.slice (some ⟨h.next,0,none⟩) 1 1) (h.push (.cells [.int .u8 z] 5 1 true))=some (.slice b n c,u)/\n=vs.length+1/\OwnR h0 (u.app (h.push (.cells [.int .u8 z] 5 1 true))) 5 (.slice b n c) (vs++[.int .u8 z])/\Ok h0 (u.app (h.push (.cells [.int .u8 z] 5 1 true))):=
 OwnR.snoc tf OD JQ w0 ok o rfl (by rw [Ip]; omega) (by omega)
theorem H7 (c:UInt8)(l:List UInt8):Num.digs (c::l)=Num.digs l++[Num.dv c]:=by simp [Num.digs]
theorem yH {l:List UInt8}{i:Nat}(h:i < l.length):l.drop i=l.getD i 0::l.drop (i+1):=by
 rw [gD,gE h,drop_eq_getElem_cons h]; rfl
theorem vR {l:List UInt8}(hd:l.all Num.isDig=true){i:Nat}(h:i < l.length):Num.isDig (l.getD i 0)=true:=by
 rw [gD,gE h];exact all_eq_true.1 hd _ (getElem_mem h)
def ew (h:Heap)(e:TypeId)(vs:List Value):VH:=fun v h'=> ∃ a n c,v = .slice a n c/\OwnR h h' e (.slice a n c) vs/\Ok h h'
theorem lz (l:List UInt8)(hd:l.all Num.isDig=true)(hlen:l.length<=100000)(h:Heap)(w:Wf h):FW SS 151 [aa l] h (ew h 3 ((Num.digs l).map iv)):=by
 have L:=mH l (fun mz i a n c g=> -1<=i/\i < l.length/\mz=(i+1).toNat/\OwnR h g 3 (.slice a n c) ((Num.digs (l.drop (i+1).toNat)).map iv)/\Ok h g) (ew h 3 ((Num.digs l).map iv)) (by
  intro mz i a n c; intros; rename_i g hi;obtain ⟨h1,h2,h3,h4,ok⟩:=hi;refine ae (fun h5=> ?_) (fun h5=> ?_)
  ·have h5:=dT h5;have hin:i.toNat < l.length:=by omega
   have hdig:=vR hd hin;have hdr:=Num.isDig_iff.1 hdig;refine ⟨_,tP (h:=g) l h5 h2,_,_,_,jR _,?_⟩;obtain ⟨b,m,d,u,h6,h7,h8,h9⟩:=vF w ok h4 (wrap .i64 (wrap .u8 ((((l.getD i.toNat 0).toNat:Nat):Int) - 48))) (by simp [Num.digs]; omega);refine ⟨b,m,d,u,h6,?_⟩;have hw:wrap .i64 (i - 1)=i - 1:=am (by omega) (by omega);refine fG (mz - 1) (by omega) ?_;rw [hw];refine ⟨by omega,by omega,by omega,?_,h9⟩;have e1:wrap .i64 (wrap .u8 ((((l.getD i.toNat 0).toNat:Nat):Int) - 48))=((Num.dv (l.getD i.toNat 0):Nat):Int):=by
    rw [lU (by omega) (by omega),am (by omega) (by omega)];unfold Num.dv; omega
   rw [e1] at h8;have e2:(i - 1+1).toNat=i.toNat:=by omega
   have e3:(i+1).toNat=i.toNat+1:=by omega
   rw [e3] at h8;rw [e1,e2,yH hin,H7,map_append];exact h8
  ·have h5:=dF h5;obtain rfl:i = -1:=by omega
   exact ⟨a,n,c,rfl,h4,ok⟩)
 have hw:wrap .i64 ((l.length:Int) - 1)=(l.length:Int) - 1:=am (by omega) (by omega);refine zU l h _ ?_;refine L l.length ⟨by rw [hw]; omega,by rw [hw]; omega,by rw [hw]; omega,?_,Ok.refl w⟩;rw [hw,show ((l.length:Int) - 1+1).toNat=l.length by omega,List.drop_length];exact .inl ⟨rfl,rfl⟩
theorem vM {h:Heap}{a b:Option Addr}{n c m d:Nat}{x y:List Nat}(ra:Rd h 3 (.slice a n c) (x.map iv))(rb:Rd h 3 (.slice b m d) (y.map iv))(hx: ∀ d∈x,d < 10)(hy: ∀ d∈y,d < 10)(hlen:x.length<=100000)(w:Wf h):
  FW SS 156 [.slice a n c,.slice b m d] h (ew h 3 ((Num.eachF Num.lessF x y 0 x.length 0).map iv)):=by
 have hn:n=x.length:=by have:=ra.len; rwa [lM] at this
 have hc1: ∀ k,Num.cr Num.lessF x y 0 0 k<=1:=Num.cr_le (fun p q c _=>by unfold Num.lessF; split <;> simp) x y 0 0 (by omega);have L:=pS a n c b m d (fun mz k cc r rn rc g=>k<=x.length/\mz=x.length - k/\cc=Num.cr Num.lessF x y 0 0 k/\OwnR h g 3 (.slice r rn rc) ((Num.eachF Num.lessF x y 0 k 0).map iv)/\Ok h g) (ew h 3 ((Num.eachF Num.lessF x y 0 x.length 0).map iv)) (by
  intro mz k cc r rn rc; intros; rename_i g hi;obtain ⟨h1,h2,h3,h4,ok⟩:=hi;have hcc:=hc1 k;have hp:=Num.getD_lt (by omega) hx k;have hq:=Num.getD_lt (by omega) hy k;refine ae (fun h5=> ?_) (fun h5=> ?_)
  ·have h5:=dT h5;refine (mQ (ra.ok ok) k).mono ?_;rintro _ _ ⟨rfl,rfl⟩;refine ⟨_,rfl,(mQ (rb.ok ok) k).mono ?_⟩;rintro _ _ ⟨rfl,rfl⟩;refine ⟨_,rfl,?_⟩;have hw1:wrap .i64 (((x.getD k 0:Nat):Int) - ((y.getD k 0:Nat):Int))=((x.getD k 0:Nat):Int) - ((y.getD k 0:Nat):Int):=am (by omega) (by omega);have hw2:wrap .i64 (((x.getD k 0:Nat):Int) - ((y.getD k 0:Nat):Int) - (cc:Int))=((x.getD k 0:Nat):Int) - ((y.getD k 0:Nat):Int) - (cc:Int):=am (by omega) (by omega);have hw3:wrap .i64 ((k:Int)+1)=((k+1:Nat):Int):=by rw [am (by omega) (by omega)]; omega
   dsimp only;rw [hw1,hw2,hw3];have hel:(Num.eachF Num.lessF x y 0 k 0).length=k:=Num.eachF_len _ _ _ _ _ _;have hsn:=Num.eachF_snoc Num.lessF x y k 0 0;have hcr:Num.cr Num.lessF x y 0 0 (k+1)=(Num.lessF (x.getD (0+k) 0) (y.getD (0+k) 0) (Num.cr Num.lessF x y 0 0 k)).2:=rfl;rw [zero_add,<-h3] at hsn hcr;refine ae (fun h6=> ?_) (fun h6=> ?_)
   ·have h6:=dT h6;refine ⟨_,_,_,jR _,?_⟩;obtain ⟨b',m',d',u,g6,g7,g8,g9⟩:=vF w ok h4 (wrap .i64 (((x.getD k 0:Nat):Int) - ((y.getD k 0:Nat):Int) - (cc:Int)+10)) (by rw [lM,hel]; omega);refine ⟨b',m',d',u,g6,?_⟩;have e1:Num.lessF (x.getD k 0) (y.getD k 0) cc=(x.getD k 0+10 - y.getD k 0 - cc,1):=by unfold Num.lessF; rw [if_pos (by omega)]
    refine jF (b:=1) (mz - 1) (by omega) ⟨by omega,by omega,by rw [hcr,e1],?_,g9⟩;rw [hsn,e1,map_append];have e2:wrap .i64 (((x.getD k 0:Nat):Int) - ((y.getD k 0:Nat):Int) - (cc:Int)+10)=((x.getD k 0+10 - y.getD k 0 - cc:Nat):Int):=by rw [am (by omega) (by omega)]; omega
    rw [e2] at g8 ⊢;exact g8
   ·have h6:=dF h6;refine ⟨_,_,_,jR _,?_⟩;obtain ⟨b',m',d',u,g6,g7,g8,g9⟩:=vF w ok h4 (((x.getD k 0:Nat):Int) - ((y.getD k 0:Nat):Int) - (cc:Int)) (by rw [lM,hel]; omega);refine ⟨b',m',d',u,g6,?_⟩;have e1:Num.lessF (x.getD k 0) (y.getD k 0) cc=(x.getD k 0 - y.getD k 0 - cc,0):=by unfold Num.lessF; rw [if_neg (by omega)]
    refine jF (b:=0) (mz - 1) (by omega) ⟨by omega,by omega,by rw [hcr,e1],?_,g9⟩;rw [hsn,e1,map_append];have e2:((x.getD k 0:Nat):Int) - ((y.getD k 0:Nat):Int) - (cc:Int)=((x.getD k 0 - y.getD k 0 - cc:Nat):Int):=by omega
    rw [e2] at g8 ⊢;exact g8
  ·have h5:=dF h5;obtain rfl:k=x.length:=by omega
   exact ⟨r,rn,rc,rfl,h4,ok⟩)
 exact Df a n c b m d h _ (L x.length (k:=0) (cc:=0) ⟨by omega,by omega,rfl,.inl ⟨rfl,rfl⟩,Ok.refl w⟩)
theorem Fj {h:Heap}{v:Value}{l:List UInt8}(r:Rd h 5 v (l.map mD)):tH SS.P 157 9 v h=some (aa l):=MA tf M7 Rn r
theorem wZ {x:List Nat}{z i:Nat}(hi:i < z)(hz:z<=x.length):((x.take z).drop i).reverse=((x.take z).drop (i+1)).reverse++[x.getD i 0]:=by
 have hl:i < (x.take z).length:=by rw [length_take]; omega
 rw [drop_eq_getElem_cons hl,List.reverse_cons,List.getElem_take,gD,gE (by omega)]; rfl
theorem lA {h:Heap}{a:Option Addr}{n c:Nat}{x:List Nat}(ra:Rd h 3 (.slice a n c) (x.map iv))(hx: ∀ d∈x,d < 10)(hlen:x.length<=100000)(w:Wf h):
  FW SS 154 [.slice a n c] h (fun v h'=>v=aa (Num.toDec (Num.bv 10 x))/\Ok h h'):=by
 have hn:n=x.length:=by have:=ra.len; rwa [lM] at this
 have L2:=fun (zN:Nat) (hz:zN<=x.length) (hz1:0 < x.length->0 < zN) (hf:0 < x.length->Num.txt (x.take zN)=Num.toDec (Num.bv 10 x))=>pW a n c (fun mz i r rn rc g=> -1<=i/\i < (zN:Int)/\mz=(i+1).toNat/\OwnR h g 5 (.slice r rn rc) ((((x.take zN).drop (i+1).toNat).reverse.map Num.dig).map mD)/\Ok h g) (fun v h'=>v=aa (Num.toDec (Num.bv 10 x))/\Ok h h') (by
  intro mz i r rn rc; intros; rename_i g hi;obtain ⟨h1,h2,h3,h4,ok⟩:=hi;refine ae (fun h5=> ?_) (fun h5=> ?_)
  ·have h5:=dT h5;obtain ⟨p,g2,g3⟩:=(ra.ok ok).at_ gP tF CU BW (k:= .i64) (i:=i) h5 (by rw [lM]; omega);rw [mW x i.toNat (by omega)] at g3;refine ⟨p,g2,_,g3,_,_,_,Ny _,?_⟩;have hd:=Num.getD_lt (by omega) hx i.toNat;obtain ⟨b,m,d,u,g6,g7,g8,g9⟩:=EW w ok h4 (wrap .u8 (wrap .i64 (48+((x.getD i.toNat 0:Nat):Int)))) (by simp; omega);refine ⟨b,m,d,u,g6,?_⟩;have hw:wrap .i64 (i - 1)=i - 1:=am (by omega) (by omega);refine fG (mz - 1) (by omega) ?_;rw [hw];refine ⟨by omega,by omega,by omega,?_,g9⟩;rw [show (i - 1+1).toNat=i.toNat by omega,wZ (by omega) hz,map_append,map_append];rw [show (i+1).toNat=i.toNat+1 by omega] at g8;have e1:mD (Num.dig (x.getD i.toNat 0)) = .int .u8 (wrap .u8 (wrap .i64 (48+((x.getD i.toNat 0:Nat):Int)))):=by
    unfold mD;rw [Num.toNat_dig hd,am (by omega) (by omega),lU (by omega) (by omega)]
    first | rfl | (congr 1; omega)
   show OwnR h _ 5 _ (_++[mD (Num.dig (x.getD i.toNat 0))]);rw [e1];exact g8
  ·have h5:=dF h5;obtain rfl:i = -1:=by omega
   have e0:((-1:Int)+1).toNat=0:=rfl;rw [e0,drop_zero] at h4;have hrn:=h4.len;simp only [lM,List.length_reverse,length_take] at hrn;refine ae (fun h6=> ?_) (fun h6=> ?_)
   ·have h6:(rn:Int)=0:=by simpa using h6
    have hx0:x=[]:=by
     rcases eq_zero_or_pos x.length with e | e
     ·exact eq_nil_of_length_eq_zero e
     ·have:=hz1 e; omega
    subst hx0;exact ⟨by rw [show Num.bv 10 []=0 from rfl,Num.toDec_zero],ok⟩
   ·have h6: ¬ (rn:Int)=0:=by simpa using h6
    have hx0:0 < x.length:=by omega
    have:=Fj h4.rd;rw [show ((x.take zN).reverse.map Num.dig)=Num.txt (x.take zN) from rfl,hf hx0] at this;exact ⟨_,this,rfl,ok⟩)
 have start2: ∀ (zN:Nat),OwnR h h 5 (.slice none 0 0) ((((x.take zN).drop ((zN:Int) - 1+1).toNat).reverse.map Num.dig).map mD):=fun zN=>by
  rw [show ((zN:Int) - 1+1).toNat=zN by omega,drop_of_length_le (by rw [length_take]; omega)];exact .inl ⟨rfl,rfl⟩
 have L1:=qa a n c (fun mz z g=>0<=z/\z<=x.length/\mz=z.toNat/\(0 < x.length->0 < z)/\(∀ j:Nat,z<=j->x.getD j 0=0)/\g=h) (fun v h'=>v=aa (Num.toDec (Num.bv 10 x))/\Ok h h') (by
  intro mz z; intros; rename_i g hi;obtain ⟨h1,h2,h3,h4,h5,rfl⟩:=hi;obtain ⟨zN,rfl⟩: ∃ zN:Nat,z=zN:=⟨z.toNat,by omega⟩
  have hw:wrap .i64 ((zN:Int) - 1)=(zN:Int) - 1:=am (by omega) (by omega);have leave:(1 < zN->x.getD (zN - 1) 0≠0)->0 < x.length->Num.txt (x.take zN)=Num.toDec (Num.bv 10 x):=fun hl hp=>by
   rw [<-Num.bv_take_zero (l:=x) (n:=zN) (fun j hj=>h5 j (by omega))];refine Num.txt_dec (fun d hd=>hx d (mem_of_mem_take hd)) (fun e=> ?_) (fun h7=> ?_)
   ·have:=congrArg List.length e;rw [length_take] at this;have h9:min zN x.length=0:=this;have:=h4 hp;omega
   ·rw [length_take] at h7;have h8:=hl (by omega);rw [List.getLast?_eq_getElem?,length_take,getElem?_take,if_pos (by omega)];rw [gD,gE (by omega)] at h8;rw [show min zN x.length - 1=zN - 1 by omega,gE (by omega)];simpa using h8
  refine ae (fun h6=> ?_) (fun h6=> ?_)
  ·have h6:=dT h6;rw [hw];obtain ⟨p,g2,g3⟩:=ra.at_ gP tF CU BW (k:= .i64) (i:=(zN:Int) - 1) (by omega) (by rw [lM]; omega);rw [mW x _ (by omega),show ((zN:Int) - 1).toNat=zN - 1 by omega] at g3;refine ⟨p,g2,_,g3,ae (fun h7=> ?_) (fun h7=> ?_)⟩
   ·have h7:((x.getD (zN - 1) 0:Nat):Int)=0:=by simpa using h7
    refine bp (mz - 1) (by omega) ⟨by omega,by omega,by omega,fun _=>by omega,fun j hj=> ?_,rfl⟩;rcases lt_or_ge j zN with h8 | h8
    ·obtain rfl:j=zN - 1:=by omega
     omega
    ·exact h5 j (by omega)
   ·have h7: ¬ ((x.getD (zN - 1) 0:Nat):Int)=0:=by simpa using h7
    exact L2 zN (by omega) (fun hp=>by have:=h4 hp; omega) (leave fun _=>by omega) zN ⟨by omega,by omega,by omega,start2 zN,Ok.refl w⟩
  ·have h6:=dF h6;rw [hw];exact L2 zN (by omega) (fun hp=>by have:=h4 hp; omega) (leave fun hh=>by omega) zN ⟨by omega,by omega,by omega,start2 zN,Ok.refl w⟩)
 refine C4 a n c h _ (L1 n (z:=(n:Int)) ⟨by omega,by omega,by omega,fun hp=>by omega,fun j hj=> ?_,rfl⟩);rw [gD,getElem?_eq_none (by omega)]; rfl
noncomputable def bc:FD:=bF Tryz.f150 [([1,1,1,1,1,0,1,0,0],[0,1,7,8,9]),([1,1,1,1,1,0,1,0,0,1,0,0,1,1,0,0,0],[0,1,7,8,9,10]),([1,1,1,1,1,1,1,0,0,0],[0,1,7,8,11])]
abbrev cS (a b:LB)(k:Nat)(r:LB)(q:OA)(qn qc:Nat):LV:=[(aa a),(aa b),(.slice q qn qc),(aa r),(iA k)]
abbrev eN (a b:LB)(k:Nat)(q:OA)(qn qc:Nat)(r:LB)(d:Int):LV:=[(aa a),(aa b),(.slice q qn qc),(aa r),(iA k),(.int .u8 d)]
abbrev gM (a b r:LB)(q:OA)(qn qc:Nat)(z:Nat):LV:=[(aa a),(aa b),(.slice q qn qc),(aa r),(iA z)]
theorem Hc (a b:LB)(h:Heap)(Q:VH)(hx:FW SS 149 [(aa a)] h fun v1 h2=>yB v1 fun b3=>au (!b3) (Q (.tuple ⟨[(aa []),(aa []),(.int .i64 1)]⟩) h2) (FW SS 149 [(aa b)] h2 fun v4 h5=>yB v4 fun b6=>au (!b6) (Q (.tuple ⟨[(aa []),(aa []),(.int .i64 1)]⟩) h5) (au ((b:LB) == [48]) (Q (.tuple ⟨[(aa []),(aa []),(.int .i64 4)]⟩) h5) (LL SS bc [1,1,1,1,1,0,1,0,0] (cS a b 0 ([48]) none 0 0) h5 (KK SS bc [1,1,1,1,1,0,1,0] [] (EE SS bc Q)))))):FW SS 150 [(aa a),(aa b)] h Q:=bG bc Tryz.func150 (aj hx)
theorem q6 (a b:LB)  (Inv:Nat->Nat->LB->OA->Nat->Nat->Heap->Prop) (Q:VH) (step: ∀ (mz:Nat)(k:Nat)(r:LB)(q:OA)(qn qc:Nat)(zz:Nat->Value)(h:Heap),Inv mz k r q qn qc h->au (decide (((k:Int):Int) < ((a:LB).length:Int))) (au ((r:LB) == [48]) (xS (aH SS.P 9 (aa a) (some (iA k)) (some (.int .i64 (wrap .i64 ((k:Int)+1)))) none h) fun l7=>LL SS bc [1,1,1,1,1,0,1,0,0,1,0,0,1,1,0,0,0] (eN a b k q qn qc l7 48) h (KK SS bc [1,0,0,1,1,0,0] [1,1,1,1,1,0,1,0,0] (RR bc [1,1,1,1,1,0,1,0,0] (wp (cS a b) Inv) mz (KK SS bc [1,1,1,1,1,0,1,0] [] (EE SS bc Q))))) (xS (aH SS.P 9 (aa a) (some (iA k)) (some (.int .i64 (wrap .i64 ((k:Int)+1)))) none h) fun l8=>xS (al SS.P .add 9 (aa r) (aa l8)) fun l9=>LL SS bc [1,1,1,1,1,0,1,0,0,1,0,0,1,1,0,0,0] (eN a b k q qn qc l9 48) h (KK SS bc [1,0,0,1,1,0,0] [1,1,1,1,1,0,1,0,0] (RR bc [1,1,1,1,1,0,1,0,0] (wp (cS a b) Inv) mz (KK SS bc [1,1,1,1,1,0,1,0] [] (EE SS bc Q)))))) (LL SS bc [1,1,1,1,1,1,1,0,0,0] (gM a b r q qn qc 0) h (KK SS bc [1,1,1,1,1,1,1,0,0] [] (EE SS bc Q)))) (mz:Nat) {k:Nat} {r:LB} {q:OA} {qn qc:Nat} {h:Heap} (hi:Inv mz k r q qn qc h):LL SS bc [1,1,1,1,1,0,1,0,0] (cS a b k r q qn qc) h (KK SS bc [1,1,1,1,1,0,1,0] [] (EE SS bc Q)):=
 xK (cS a b) Inv (fun mz k r q qn qc zz h hi=>aj (step mz k r q qn qc zz h hi)) mz hi
theorem qU (a b:LB)(Inv:Nat->Nat->LB->OA->Nat->Nat->Heap->Prop)(mz k:Nat)(q:OA)(qn qc:Nat)(Inv2:Nat->LB->Int->Heap->Prop)(Q:VH)(step: ∀ (mz2:Nat) (r:LB) (d:Int) (zz:Nat->Value) (h:Heap),Inv2 mz2 r d h->FW SS 155 [(aa r),(aa b)] h fun v10 h11=>yI .i64 v10 fun n12=>au (decide ((n12:Int)>=0)) (FW SS 151 [(aa r)] h11 fun v13 h14=>yL v13 fun a15 n16 c17=>FW SS 151 [(aa b)] h14 fun v18 h19=>yL v18 fun a20 n21 c22=>FW SS 156 [(.slice a15 n16 c17),(.slice a20 n21 c22)] h19 fun v23 h24=>yL v23 fun a25 n26 c27=>FW SS 154 [(.slice a25 n26 c27)] h24 fun v28 h29=>yS v28 fun l30=>ax (qh (eN a b k q qn qc) Inv2) mz2 [(aa a),(aa b),(.slice q qn qc),(aa l30),(iA k),(.int .u8 (wrap .u8 (d+1)))] h29) (xR (ak SS.P 157 1 [(0,(.int .u8 d))]) h11 fun B31 n32 c33 g34=>xE (ay SS.P 157 157 (.slice q qn qc) (sA (h11.next) n32 c33) g34) g34 fun a35 n36 c37 u38 g39=>ax (wp (cS a b) Inv) mz [(aa a),(aa b),(.slice a35 n36 c37),(aa r),(.int .i64 (wrap .i64 ((k:Int)+1)))] g39))(mz2:Nat){r:LB}{d:Int}{h:Heap}(hi:Inv2 mz2 r d h):LL SS bc [1,1,1,1,1,0,1,0,0,1,0,0,1,1,0,0,0] (eN a b k q qn qc r d) h (KK SS bc [1,0,0,1,1,0,0] [1,1,1,1,1,0,1,0,0] (RR bc [1,1,1,1,1,0,1,0,0] (wp (cS a b) Inv) mz (KK SS bc [1,1,1,1,1,0,1,0] [] (EE SS bc Q)))):=
 ki (eN a b k q qn qc) Inv2 (fun mz2 r d zz h hi=>aj (step mz2 r d zz h hi)) mz2 hi
theorem rv (a b:LB)(r:LB)(q:OA)(qn qc:Nat)(Inv:Nat->Nat->Heap->Prop)(Q:VH)(step: ∀ (mz:Nat) (z:Nat) (zz:Nat->Value) (h:Heap),Inv mz z h->au (decide (((z:Int):Int) < wrap .i64 ((qn:Int) - 1))) (xP (ag SS.P 157 (.slice q qn qc) (iA z)) fun p40=>xI .u8 (ah SS.P 5 h (.pointer (some p40))) fun n41=>au (((n41:Int) == 48)) (ax (fA (gM a b r q qn qc) Inv) mz [(aa a),(aa b),(.slice q qn qc),(aa r),(.int .i64 (wrap .i64 ((z:Int)+1)))] h) (xL (aH SS.P 157 (.slice q qn qc) (some (iA z)) none none h) fun a42 n43 c44=>xS (tH SS.P 157 9 (.slice a42 n43 c44) h) fun l45=>Q (.tuple ⟨[(aa l45),(aa r),(.int .i64 0)]⟩) h)) (xL (aH SS.P 157 (.slice q qn qc) (some (iA z)) none none h) fun a46 n47 c48=>xS (tH SS.P 157 9 (.slice a46 n47 c48) h) fun l49=>Q (.tuple ⟨[(aa l49),(aa r),(.int .i64 0)]⟩) h))(mz:Nat){z:Nat}{h:Heap}(hi:Inv mz z h):LL SS bc [1,1,1,1,1,1,1,0,0,0] (gM a b r q qn qc z) h (KK SS bc [1,1,1,1,1,1,1,0,0] [] (EE SS bc Q)):=
 bH (gM a b r q qn qc) Inv (fun mz z zz h hi=>aj (step mz z zz h hi)) mz hi
noncomputable def jo:FD:=bF Tryz.f128 [([1,1,0,0,0],[0,1])]
abbrev gr  (x y:LB):LV:=[(aa x),(aa y)]
theorem GH (a b:LB)(h:Heap)(Q:VH)(hx:FW SS 149 [(aa a)] h fun v1 h2=>yB v1 fun b3=>au (!b3) (Q (.tuple ⟨[(aa []),(.int .i64 1)]⟩) h2) (FW SS 149 [(aa b)] h2 fun v4 h5=>yB v4 fun b6=>au (!b6) (Q (.tuple ⟨[(aa []),(.int .i64 1)]⟩) h5) (LL SS jo [1,1,0,0,0] (gr a b) h5 (KK SS jo [1,1,0,0] [] (EE SS jo Q))))):FW SS 128 [(aa a),(aa b)] h Q:=bG jo Tryz.func128 (aj hx)
theorem qG (a b:LB)  (Inv:Nat->LB->LB->Heap->Prop) (Q:VH) (step: ∀ (mz:Nat)(x y:LB)(zz:Nat->Value)(h:Heap),Inv mz x y h->au (!((y:LB) == [48])) (FW SS 150 [(aa x),(aa y)] h fun v7 h8=> ∃ l9:LB,∃ l10:LB,∃ n11:Int,v7=(.tuple ⟨[(aa l9),(aa l10),(.int .i64 n11)]⟩)/\ax (qh gr Inv) mz [(aa y),(aa l10)] h8) (Q (.tuple ⟨[(aa x),(.int .i64 0)]⟩) h)) (mz:Nat) {x y:LB} {h:Heap} (hi:Inv mz x y h):LL SS jo [1,1,0,0,0] (gr  x y) h (KK SS jo [1,1,0,0] [] (EE SS jo Q)):=
 ki gr Inv (fun mz x y zz h hi=>aj (step mz x y zz h hi)) mz hi
theorem Ku (l:List UInt8){h:Heap}{a b:Nat}(h1:a<=b)(h2:b<=l.length):aH SS.P 9 (aa l) (some (.int .i64 (a:Int))) (some (.int .i64 (b:Int))) none h=some (aa ((l.drop a).take (b - a))):=ji M7 l rfl rfl h1 h2
theorem JO {l:List UInt8}{k:Nat}(h:k < l.length):(l.drop k).take (k+1 - k)=[l.getD k 0]:=by
 rw [yH h,show k+1 - k=1 by omega]; rfl
theorem cV {n:Nat}(h:n < 10 ^ 1000):(Num.toDec n).length<=1000:=(Num.toDec_len_le (by omega)).2 h
theorem getE {l:List UInt8}{k:Nat}(h:k < l.length):l[k]?=some (l.getD k 0):=by
 rw [gD,gE h]; rfl
def yp (a b:List UInt8)(e:Int):Value:= .tuple ⟨[aa a,aa b,.int .i64 e]⟩
theorem If (m n:Nat)(hm:m < 10 ^ 1000)(hn:n < 10 ^ 1000)(hn0:0 < n)(h:Heap)(w:Wf h):FW SS 150 [aa (Num.toDec m),aa (Num.toDec n)] h (fun v h'=>v=yp (Num.toDec (m / n)) (Num.toDec (m % n)) 0/\Ok h h'):=by
 have hma:=cV hm;have hna:=cV hn;have hda:=Num.toDec_all m;generalize ha:Num.toDec m=a at *;have hva:Num.val a=m:=by rw [<-ha,Num.val_toDec]
 have hne: ¬ Num.toDec n=[48]:=fun e=>by have:=Num.toDec_eq_zero.1 e; omega
 have L3:=fun (g0:Heap) (r:List UInt8) (q:Option Addr) (qn qc:Nat) (qs:List UInt8) (ho:OwnR h g0 5 (.slice q qn qc) (qs.map mD)) (hq:qs.all Num.isDig=true) (hq0:0 < qs.length) (hql:qs.length<=1000) (hqv:Num.val qs=m / n) (hr:r=Num.toDec (m % n)) (ok:Ok h g0)=>
  rv a (Num.toDec n) r q qn qc (fun mz z g=>z+1<=qs.length/\mz=qs.length - z/\(∀ i,i < z->qs[i]?=some 48)/\g=g0) (fun v h'=>v=yp (Num.toDec (m / n)) (Num.toDec (m % n)) 0/\Ok h h') (by
  intro mz z; intros; rename_i g hi;obtain ⟨h1,h2,h3,rfl⟩:=hi;have hqn:qn=qs.length:=by have:=ho.len; rwa [lM] at this
  have hw:wrap .i64 ((qn:Int) - 1)=(qn:Int) - 1:=am (by omega) (by omega);have hw2:wrap .i64 ((z:Int)+1)=((z+1:Nat):Int):=by rw [am (by omega) (by omega)]; omega
  have fin:(z+1 < qs.length->qs[z]?≠some 48)-> ∃ (a40:Option Addr)(n41 c42:Nat),aH SS.P 157 (.slice q qn qc) (some (.int .i64 (z:Int))) none none g=some (.slice a40 n41 c42)/\ ∃ l43:List UInt8,tH SS.P 157 9 (.slice a40 n41 c42) g=some (aa l43)/\(yp l43 r 0=yp (Num.toDec (m / n)) (Num.toDec (m % n)) 0/\Ok h g):=fun hs=>by
   obtain ⟨a',n',c',g1,g2⟩:=ho.from_ tf OZ (z:=z) (by rw [lM]; omega);rw [<-map_drop] at g2;refine ⟨a',n',c',g1,_,Fj g2,?_,ok⟩;rw [Num.strip_dec hq (by omega) h3 hs,hqv,hr]
  rw [hw,hw2];refine ae (fun h5=> ?_) (fun h5=> ?_)
  ·have h5:=dT h5;obtain ⟨p,g2,g3⟩:=ho.rd.at_ tf OZ Rn Rw (k:= .i64) (i:=(z:Int)) (by omega) (by rw [lM]; omega);have e1:(qs.map mD).getD ((z:Int)).toNat undef = .int .u8 ((qs.getD z 0).toNat:Nat):=by
    rw [toNat_natCast,gD,getElem?_map,getE (by omega)]; rfl
   rw [e1] at g3;refine ⟨p,g2,_,g3,ae (fun h6=> ?_) (fun h6=> ?_)⟩
   ·have h6:=u8_eq.1 h6;refine bp (mz - 1) (by omega) ⟨by omega,by omega,fun i hi=> ?_,rfl⟩;rcases lt_or_ge i z with h7 | h7
    ·exact h3 i h7
    ·obtain rfl:i=z:=by omega
     rw [getE (by omega),h6]
   ·exact fin fun _ e=>by
     rw [getE (by omega)] at e;rw [u8_eq.2 (oI e)] at h6; cases h6
  ·have h5:=dF h5;exact fin fun hh=>by omega)
 have L1:=q6 a (Num.toDec n) (fun mz k r q qn qc g=>k<=a.length/\mz=a.length - k/\r=Num.toDec (Num.val (a.take k) % n)/\(∃ qs:List UInt8,qs.length=k/\qs.all Num.isDig=true/\Num.val qs=Num.val (a.take k) / n/\OwnR h g 5 (.slice q qn qc) (qs.map mD))/\Ok h g) (fun v h'=>v=yp (Num.toDec (m / n)) (Num.toDec (m % n)) 0/\Ok h h') (by
  intro mz k r q qn qc; intros; rename_i g hi;obtain ⟨h1,h2,hr,⟨qs,hq1,hq2,hq3,ho⟩,ok⟩:=hi;refine ae (fun h5=> ?_) (fun h5=> ?_)
  ·have h5:=dT h5;have hin:k < a.length:=by omega
   have hdig:=vR hda hin;have hdv:=Num.dv_lt hdig;have hmod:=mod_lt (Num.val (a.take k)) hn0;have hw2:wrap .i64 ((k:Int)+1)=((k+1:Nat):Int):=by rw [am (by omega) (by omega)]; omega
   have htk:Num.val (a.take (k+1))=10*Num.val (a.take k)+Num.dv (a.getD k 0):=Num.val_take_succ (getE hin);have hpush:=Num.toDec_push (r:=Num.val (a.take k) % n) hdig;have L2:=qU a (Num.toDec n) (fun mz k r q qn qc g=>k<=a.length/\mz=a.length - k/\r=Num.toDec (Num.val (a.take k) % n)/\(∃ qs:List UInt8,qs.length=k/\qs.all Num.isDig=true/\Num.val qs=Num.val (a.take k) / n/\OwnR h g 5 (.slice q qn qc) (qs.map mD))/\Ok h g) mz k q qn qc
    (fun mz2 r d g2=> ∃ j:Nat,d=48+(j:Int)/\j*n<=10*(Num.val (a.take k) % n)+Num.dv (a.getD k 0)/\r=Num.toDec (10*(Num.val (a.take k) % n)+Num.dv (a.getD k 0) - j*n)/\mz2=10*(Num.val (a.take k) % n)+Num.dv (a.getD k 0) - j*n/\Ok g g2) (fun v h'=>v=yp (Num.toDec (m / n)) (Num.toDec (m % n)) 0/\Ok h h') (by
    intro mz2 r2 d; intros; rename_i g2 hi2;obtain ⟨j,rfl,hj1,rfl,hj2,ok2⟩:=hi2;have hj9:=Num.div_digit hn0 hdv hj1;generalize hR:10*(Num.val (a.take k) % n)+Num.dv (a.getD k 0)=R at *;have hRl:(Num.toDec (R - j*n)).length<=1001:=by
     have h10:=Num.toDec_lt_pow n;refine le_trans ((Num.toDec_len_le (k:=(Num.toDec n).length+1) (by omega)).2 ?_) (by omega);rw [pow_succ];generalize 10 ^ (Num.toDec n).length=T at h10;clear hn hm;omega
    have okg:=ok.trans ok2;refine (kH (R - j*n) n (by omega) (by omega) g2 okg.wf).mono ?_;rintro _ g3 ⟨rfl,ok3⟩;refine ⟨_,rfl,ae (fun h6=> ?_) (fun h6=> ?_)⟩
    ·have h6:=Num.cmpN_ge.1 (dT h6);refine (lz _ (Num.toDec_all _) (by omega) g3 ok3.wf).mono ?_;rintro _ g4 ⟨a1,n1,c1,rfl,o1,ok4⟩;refine ⟨a1,n1,c1,rfl,(lz _ (Num.toDec_all _) (by omega) g4 ok4.wf).mono ?_⟩;rintro _ g5 ⟨a2,n2,c2,rfl,o2,ok5⟩;refine ⟨a2,n2,c2,rfl,(vM (o1.rd.ok ok5) o2.rd (Num.digs_lt (Num.toDec_all _)) (Num.digs_lt (Num.toDec_all _)) (by rw [Num.digs_len]; omega) ok5.wf).mono ?_⟩;rintro _ g6 ⟨a3,n3,c3,rfl,o3,ok6⟩;refine ⟨a3,n3,c3,rfl,(lA o3.rd (Num.less_lt (Num.digs_lt (Num.toDec_all _)) (Num.digs_lt (Num.toDec_all _)) _ _ _ (by omega)) (by rw [Num.eachF_len,Num.digs_len]; omega) ok6.wf).mono ?_⟩;rintro _ g7 ⟨rfl,ok7⟩;have hle:(Num.toDec n).length<=(Num.toDec (R - j*n)).length:=by
      rcases lt_or_ge (Num.toDec (R - j*n)).length (Num.toDec n).length with h7 | h7
      ·have:=Num.toDec_len_lt h7; omega
      ·exact h7
     have hbv:=Num.less_bv (Num.digs_lt (Num.toDec_all (R - j*n))) (Num.digs_lt (Num.toDec_all n)) (by rw [Num.digs_len,Num.digs_len]; exact hle) (by rw [Num.bv_digs,Num.bv_digs,Num.val_toDec,Num.val_toDec]; exact h6);rw [Num.bv_digs,Num.bv_digs,Num.val_toDec,Num.val_toDec] at hbv;rw [hbv];refine ⟨_,rfl,?_⟩;have hw3:wrap .u8 (48+(j:Int)+1)=48+((j+1:Nat):Int):=by rw [lU (by omega) (by omega)]; omega
     rw [hw3];have e1:(j+1)*n=j*n+n:=succ_mul j n;exact gO (R - j*n - n) (by clear hn hm; omega) ⟨j+1,rfl,by rw [e1]; clear hn hm; omega,by rw [e1,Nat.sub_sub],by rw [e1,Nat.sub_sub],((((ok2.trans ok3).trans ok4).trans ok5).trans ok6).trans ok7⟩
    ·have h6: ¬ (n<=R - j*n):=fun e=>by have:=dF h6; exact this (Num.cmpN_ge.2 e)
     have hdr:=Num.div_round (V:=Num.val (a.take k)) (d:=Num.dv (a.getD k 0)) hn0 (k:=j) (by rw [hR]; exact hj1) (by rw [hR,succ_mul]; clear hn hm; omega);rw [hR] at hdr;refine ⟨_,_,_,Ny _,?_⟩;have okk:=ok.trans (ok2.trans ok3);obtain ⟨b,mm,dd,u,g6,g7,g8,g9⟩:=EW w okk (ho.ok (ok2.trans ok3)) (48+(j:Int)) (by rw [lM]; omega);refine ⟨b,mm,dd,u,g6,?_⟩;rw [hw2];refine jF (mz - 1) (by omega) ⟨by omega,by omega,?_,⟨qs++[Num.dig j],by simp [hq1],?_,?_,?_⟩,g9⟩
     ·rw [htk,hdr.2]
     ·rw [all_append,hq2]; simp [Num.isDig_dig hj9]
     ·rw [Num.val_snoc,hq3,Num.dv_dig hj9,htk,hdr.1]
     ·rw [map_append];have e1:mD (Num.dig j) = .int .u8 (48+(j:Int)):=by
       unfold mD; rw [Num.toNat_dig hj9]; rfl
      show OwnR h _ 5 _ (_++[mD (Num.dig j)]);rw [e1]; exact g8)
   have start: ∀ r',r'=Num.toDec (10*(Num.val (a.take k) % n)+Num.dv (a.getD k 0))-> ∃ j:Nat,(48:Int)=48+(j:Int)/\j*n<=10*(Num.val (a.take k) % n)+Num.dv (a.getD k 0)/\r'=Num.toDec (10*(Num.val (a.take k) % n)+Num.dv (a.getD k 0) - j*n)/\10*(Num.val (a.take k) % n)+Num.dv (a.getD k 0)=10*(Num.val (a.take k) % n)+Num.dv (a.getD k 0) - j*n/\Ok g g:=
    fun r' e=>⟨0,rfl,by rw [zero_mul]; exact zero_le _,by rw [zero_mul,sub_zero]; exact e,by rw [zero_mul,sub_zero],Ok.refl ok.wf⟩
   rw [hw2];refine ae (fun h6=> ?_) (fun h6=> ?_)
   ·have h6:r=[48]:=by simpa using h6
    refine ⟨_,Ku a (by omega) (by omega),?_⟩;rw [JO hin];refine L2 _ (start _ ?_);rw [<-hpush,if_pos (by rw [<-hr]; exact h6)]
   ·have h6: ¬ r=[48]:=by simpa using h6
    refine ⟨_,Ku a (by omega) (by omega),?_⟩;rw [JO hin];have hrl:r.length<=1000:=by
     rw [hr];exact cV (Nat.lt_trans hmod hn)
    refine ⟨_,L9 r [a.getD k 0] (by simp; omega),?_⟩;refine L2 _ (start _ ?_);rw [<-hpush,if_neg (by rw [<-hr]; exact h6),hr]
  ·have h5:=dF h5;obtain rfl:k=a.length:=by omega
   rw [take_length] at hq3 hr;rw [hva] at hq3 hr;have hal:0 < a.length:=by rw [<-ha]; exact Num.toDec_len_pos m
   exact L3 g r q qn qc qs ho hq2 (by omega) (by omega) hq3 hr ok qs.length (z:=0) ⟨by omega,by omega,fun i hi=>by omega,rfl⟩)
 refine Hc a (Num.toDec n) h _ ?_;refine (bL a h).mono ?_;rintro _ _ ⟨rfl,rfl⟩;have hv1:Num.valid a=true:=by rw [<-ha]; exact Num.valid_toDec.2 hm
 have hv2:Num.valid (Num.toDec n)=true:=Num.valid_toDec.2 hn;refine ⟨_,rfl,ae (fun h6=> ?_) (fun h6=> ?_)⟩
 ·rw [hv1] at h6; cases h6
 ·refine (bL (Num.toDec n) _).mono ?_;rintro _ _ ⟨rfl,rfl⟩;refine ⟨_,rfl,ae (fun h7=> ?_) (fun h7=>ae (fun h8=> ?_) (fun h8=> ?_))⟩
  ·rw [hv2] at h7; cases h7
  ·exact absurd (by simpa using h8) hne
  ·exact L1 a.length (k:=0) ⟨by omega,by omega,by rw [take_zero]; simp [Num.val_nil,Num.toDec_zero],⟨[],rfl,rfl,by rw [take_zero]; simp [Num.val_nil],.inl ⟨rfl,rfl⟩⟩,Ok.refl w⟩
def wJ (a:List UInt8)(e:Int):Value:= .tuple ⟨[aa a,.int .i64 e]⟩
def tL (a b:List UInt8):Value:=if Num.valid a=true/\Num.valid b=true then wJ (Num.toDec (Nat.gcd (Num.val a) (Num.val b))) 0 else wJ [] 1
theorem GT (a b:List UInt8)(h:Heap)(w:Wf h):FW SS 128 [aa a,aa b] h (fun v h'=>v=tL a b/\Ok h h'):=by
 refine GH a b h _ ?_;refine (bL a h).mono ?_;rintro _ _ ⟨rfl,rfl⟩;refine ⟨_,rfl,ae (fun h6=> ?_) (fun h6=> ?_)⟩
 ·refine ⟨?_,Ok.refl w⟩;unfold tL; rw [if_neg (fun e=>by rw [e.1] at h6; cases h6)]; rfl
 ·refine (bL b _).mono ?_;rintro _ _ ⟨rfl,rfl⟩;refine ⟨_,rfl,ae (fun h7=> ?_) (fun h7=> ?_)⟩
  ·refine ⟨?_,Ok.refl w⟩;unfold tL; rw [if_neg (fun e=>by rw [e.2] at h7; cases h7)]; rfl
  ·have hva:Num.valid a=true:=by simpa using h6
   have hvb:Num.valid b=true:=by simpa using h7
   obtain ⟨m,rfl,hm,_⟩:=Num.valid_ex hva;obtain ⟨n,rfl,hn,_⟩:=Num.valid_ex hvb;rename_i hh _ _;have L:=qG (Num.toDec m) (Num.toDec n) (fun mz x y g=> ∃ p q:Nat,x=Num.toDec p/\y=Num.toDec q/\p < 10 ^ 1000/\q < 10 ^ 1000/\Nat.gcd p q=Nat.gcd m n/\mz=q/\Ok hh g) (fun v h'=>v=tL (Num.toDec m) (Num.toDec n)/\Ok hh h') (by
    intro mz x y; intros; rename_i g hi;obtain ⟨p,q,rfl,rfl,hp,hq,hg,rfl,ok⟩:=hi;refine ae (fun h8=> ?_) (fun h8=> ?_)
    ·have h8: ¬ Num.toDec mz=[48]:=by simpa using h8
     have hq0:0 < mz:=Nat.pos_of_ne_zero fun e=>h8 (Num.toDec_eq_zero.2 e);refine (If p mz hp hq hq0 g ok.wf).mono ?_;rintro _ g2 ⟨rfl,ok2⟩;refine ⟨_,_,_,rfl,?_⟩;have hlt:=mod_lt p hq0;exact gO (p % mz) hlt ⟨mz,p % mz,rfl,rfl,hq,Nat.lt_trans hlt hq,by rw [<-Num.gcd_step]; exact hg,rfl,ok.trans ok2⟩
    ·have h8:Num.toDec mz=[48]:=by simpa using h8
     have h0:=Num.toDec_eq_zero.1 h8;subst h0;refine ⟨?_,ok⟩;unfold tL;rw [if_pos ⟨hva,hvb⟩,Num.val_toDec,Num.val_toDec,<-hg,Nat.gcd_zero_right]; rfl)
   exact L n ⟨m,n,rfl,rfl,hm,hn,rfl,rfl,Ok.refl w⟩
noncomputable def gW:FD:=bF Tryz.f142 [([1,0,0,0],[0])]
abbrev iK  (r:OA) (m d:Nat):LV:=[(.slice r m d)]
theorem vD (a:OA)(n c:Nat)(h:Heap)(Q:VH)(hx:LL SS gW [1,0,0,0] [(.slice a n c)] h (KK SS gW [1,0,0] [] (EE SS gW Q))):FW SS 142 [(.slice a n c)] h Q:=bG gW Tryz.func142 (aj hx)
theorem jB (a:OA)(n c:Nat)  (Inv:Nat->OA->Nat->Nat->Heap->Prop) (Q:VH) (step: ∀ (mz:Nat)(r:OA)(m d:Nat)(zz:Nat->Value)(h:Heap),Inv mz r m d h->au (decide (((m:Int):Int) > 0)) (xP (ag SS.P 136 (.slice r m d) (.int .i64 (wrap .i64 ((m:Int) - 1)))) fun p1=>xI .u64 (ah SS.P 103 h (.pointer (some p1))) fun n2=>au (((n2:Int) == 0)) (xL (aH SS.P 136 (.slice r m d) none (some (.int .i64 (wrap .i64 ((m:Int) - 1)))) none h) fun a3 n4 c5=>ax (GP iK Inv) mz [(.slice a3 n4 c5)] h) (Q (.slice r m d) h)) (Q (.slice r m d) h)) (mz:Nat) {r:OA} {m d:Nat} {h:Heap} (hi:Inv mz r m d h):LL SS gW [1,0,0,0] (iK  r m d) h (KK SS gW [1,0,0] [] (EE SS gW Q)):=
 Cv iK Inv (fun mz r m d zz h hi=>aj (step mz r m d zz h hi)) mz hi
noncomputable def bj:FD:=bF Tryz.f140 [([1,1,0,0,0],[0,3]),([1,1,0,0,0,1,0,1,1,0,1,0,0],[0,3,4,5,6])]
abbrev dl  (s:LB) (r:OA) (rn rc:Nat):LV:=[(aa s),(.slice r rn rc)]
abbrev eE (s:LB)(r:OA)(rn rc:Nat)(cut:Int)(i v:Int):LV:=[(aa s),(.slice r rn rc),(.int .i64 cut),(.int .u64 v),(.int .i64 i)]
theorem zf (l:LB)(h:Heap)(Q:VH)(hx:LL SS bj [1,1,0,0,0] [(aa l),nA] h (KK SS bj [1,1,0,0] [] (EE SS bj Q))):FW SS 140 [(aa l)] h Q:=bG bj Tryz.func140 (aj hx)
theorem mG (l:LB)  (Inv:Nat->LB->OA->Nat->Nat->Heap->Prop) (Q:VH) (step: ∀ (mz:Nat)(s:LB)(r:OA)(rn rc:Nat)(zz:Nat->Value)(h:Heap),Inv mz s r rn rc h->au (decide ((((s:LB).length:Int):Int) > 0)) (xI .i64 (kz true [(.int .i64 0),(.int .i64 (wrap .i64 (((s:LB).length:Int) - 9)))]) fun n1=>LL SS bj [1,1,0,0,0,1,0,1,1,0,1,0,0] (eE s r rn rc n1 n1 0) h (KK SS bj [1,0,1,1,0,1,0] [1,1,0,0,0] (RR bj [1,1,0,0,0] (kY dl Inv) mz (KK SS bj [1,1,0,0] [] (EE SS bj Q))))) (FW SS 142 [(.slice r rn rc)] h fun v2 h3=>yL v2 fun a4 n5 c6=>Q (.slice a4 n5 c6) h3)) (mz:Nat) {s:LB} {r:OA} {rn rc:Nat} {h:Heap} (hi:Inv mz s r rn rc h):LL SS bj [1,1,0,0,0] (dl  s r rn rc) h (KK SS bj [1,1,0,0] [] (EE SS bj Q)):=
 jW dl Inv (fun mz s r rn rc zz h hi=>aj (step mz s r rn rc zz h hi)) mz hi
theorem nc (l:LB)(Inv:Nat->LB->OA->Nat->Nat->Heap->Prop)(mz:Nat)(s:LB)(r:OA)(rn rc:Nat)(cut:Int)(Inv2:Nat->Int->Int->Heap->Prop)(Q:VH)(step: ∀ (mz2:Nat) (i v:Int) (zz:Nat->Value) (h:Heap),Inv2 mz2 i v h->au (decide ((i:Int) < ((s:LB).length:Int))) (xI .u8 (aQ SS.P 9 (aa s) (.int .i64 i)) fun n7=>ax (qh (eE s r rn rc cut) Inv2) mz2 [(aa s),(.slice r rn rc),(.int .i64 cut),(.int .u64 (wrap .u64 (wrap .u64 (10*v)+wrap .u64 (wrap .u8 (n7 - 48))))),(.int .i64 (wrap .i64 (i+1)))] h) (xR (ak SS.P 136 1 [(0,(.int .u64 v))]) h fun B8 n9 c10 g11=>xE (ay SS.P 136 136 (.slice r rn rc) (sA (h.next) n9 c10) g11) g11 fun a12 n13 c14 u15 g16=>xS (aH SS.P 9 (aa s) none (some (.int .i64 cut)) none g16) fun l17=>ax (kY dl Inv) mz [(aa l17),(.slice a12 n13 c14)] g16))(mz2:Nat){i v:Int}{h:Heap}(hi:Inv2 mz2 i v h):LL SS bj [1,1,0,0,0,1,0,1,1,0,1,0,0] (eE s r rn rc cut i v) h (KK SS bj [1,0,1,1,0,1,0] [1,1,0,0,0] (RR bj [1,1,0,0,0] (kY dl Inv) mz (KK SS bj [1,1,0,0] [] (EE SS bj Q)))):=
 ki (eE s r rn rc cut) Inv2 (fun mz2 i v zz h hi=>aj (step mz2 i v zz h hi)) mz2 hi
noncomputable def Ob:FD:=bF Tryz.f179 []
theorem MW (x:Int)(h:Heap)(Q:VH)(hx:Q (.bool (((x:Int) != x))) h):FW SS 179 [(.int .u64 x)] h Q:=bG Ob Tryz.func179 (aj hx)
noncomputable def Oc:FD:=bF Tryz.f169 []
theorem Lv (x y:Int)(h:Heap)(Q:VH)(hx:FW SS 179 [(.int .u64 x)] h fun v1 h2=>yB v1 fun b3=>FW SS 179 [(.int .u64 y)] h2 fun v4 h5=>yB v4 fun b6=>au b3 (au b6 (Q (.int .i64 0) h5) (Q (.int .i64 (-1)) h5)) (au b6 (Q (.int .i64 1) h5) (au (decide ((x:Int) < y)) (Q (.int .i64 (-1)) h5) (au (decide ((x:Int) > y)) (Q (.int .i64 1) h5) (Q (.int .i64 0) h5))))):FW SS 169 [(.int .u64 x),(.int .u64 y)] h Q:=bG Oc Tryz.func169 (aj hx)
noncomputable def OU:FD:=bF Tryz.f82 []
theorem ME (x:Int)(h:Heap)(Q:VH)(hx:Q (.bool (((x:Int) != x))) h):FW SS 82 [(.int .i64 x)] h Q:=bG OU Tryz.func82 (aj hx)
noncomputable def Ov:FD:=bF Tryz.f70 []
theorem LD (x y:Int)(h:Heap)(Q:VH)(hx:FW SS 82 [(.int .i64 x)] h fun v1 h2=>yB v1 fun b3=>FW SS 82 [(.int .i64 y)] h2 fun v4 h5=>yB v4 fun b6=>au b3 (au b6 (Q (.int .i64 0) h5) (Q (.int .i64 (-1)) h5)) (au b6 (Q (.int .i64 1) h5) (au (decide ((x:Int) < y)) (Q (.int .i64 (-1)) h5) (au (decide ((x:Int) > y)) (Q (.int .i64 1) h5) (Q (.int .i64 0) h5))))):FW SS 70 [(.int .i64 x),(.int .i64 y)] h Q:=bG Ov Tryz.func70 (aj hx)
noncomputable def dW:FD:=bF Tryz.f160 [([1,1,0,1,0,0],[0,1,18,19])]
abbrev dV (a:OA)(n c:Nat)(b:OA)(m d:Nat)(i:Nat):LV:=[(.slice a n c),(.slice b m d),(iA n),(iA i)]
theorem xj (a:OA)(n c:Nat)(b:OA)(m d:Nat)(h:Heap)(Q:VH)(hx:au ((((n:Int):Int) != (m:Int))) (FW SS 70 [(iA n),(iA m)] h fun v1 h2=>yI .i64 v1 fun n3=>Q (.int .i64 n3) h2) (LL SS dW [1,1,0,1,0,0] (dV a n c b m d 0) h (KK SS dW [1,1,0,1,0] [] (EE SS dW Q)))):FW SS 160 [(.slice a n c),(.slice b m d)] h Q:=bG dW Tryz.func160 (aj hx)
theorem mB (a:OA)(n c:Nat)(b:OA)(m d:Nat)  (Inv:Nat->Nat->Heap->Prop) (Q:VH) (step: ∀ (mz:Nat)(i:Nat)(zz:Nat->Value)(h:Heap),Inv mz i h->au (decide (((i:Int):Int) < (n:Int))) (xP (ag SS.P 136 (.slice a n c) (.int .i64 (wrap .i64 (wrap .i64 ((n:Int) - 1) - (i:Int))))) fun p4=>xI .u64 (ah SS.P 103 (room h 18) (.pointer (some p4))) fun n5=>xP (ag SS.P 136 (.slice b m d) (.int .i64 (wrap .i64 (wrap .i64 ((n:Int) - 1) - (i:Int))))) fun p6=>xI .u64 (ah SS.P 103 (room h 18) (.pointer (some p6))) fun n7=>FW SS 169 [(.int .u64 n5),(.int .u64 n7)] (room h 18) fun v8 h9=>yI .i64 v8 fun n10=>au (((n10:Int) != 0)) (Q (.int .i64 n10) h9) (ax (fA (dV a n c b m d) Inv) mz [(.slice a n c),(.slice b m d),(iA n),(.int .i64 (wrap .i64 ((i:Int)+1)))] h9)) (Q (.int .i64 0) h)) (mz:Nat) {i:Nat} {h:Heap} (hi:Inv mz i h):LL SS dW [1,1,0,1,0,0] (dV a n c b m d i) h (KK SS dW [1,1,0,1,0] [] (EE SS dW Q)):=
 bH (dV a n c b m d) Inv (fun mz i zz h hi=>aj (step mz i zz h hi)) mz hi
noncomputable def Gj:FD:=bF Tryz.f185 []
theorem EO (x y z:Int)(p:OA)(h:Heap)(Q:VH)(hx:xI .u64 (ah SS.P 103 h (.pointer p)) fun n1=>xI .u64 (al SS.P .rem 103 (.int .u64 (wrap .u64 (wrap .u64 (x*n1)+z))) (.int .u64 1000000000)) fun n2=>xI .u64 (al SS.P .quo 103 (.int .u64 (wrap .u64 (wrap .u64 (x*n1)+z))) (.int .u64 1000000000)) fun n3=>Q (.tuple ⟨[(.int .u64 n2),(.int .u64 n3)]⟩) h):FW SS 185 [(.int .u64 x),(.int .u64 y),(.int .u64 z),(.pointer p)] h Q:=bG Gj Tryz.func185 (aj hx)
noncomputable def dR:FD:=bF Tryz.f167 [([1,1,1,0,1,0,0],[0,1,2,7,8,18,19])]
abbrev ck (a:OA)(n c:Nat)(p:OA)(lim:Int)(i:Nat)(cy:Int)(r:OA)(rn rc:Nat):LV:=[(.slice a n c),nA,(.func (.func 185) ⟨[]⟩ ⟨[(.pointer p)]⟩),(.slice r rn rc),(.int .u64 cy),(.int .i64 lim),(iA i)]
theorem wL (a:OA)(n c:Nat)(p:OA)(h:Heap)(Q:VH)(hx:xI .i64 (kz true [(iA n),(.int .i64 0)]) fun n1=>LL SS dR [1,1,1,0,1,0,0] [(.slice a n c),nA,(.func (.func 185) ⟨[]⟩ ⟨[(.pointer p)]⟩),nA,(.int .u64 0),(.int .i64 (wrap .i64 (n1+1))),(.int .i64 0)] h (KK SS dR [1,1,1,0,1,0] [] (EE SS dR Q))):FW SS 167 [(.slice a n c),nA,(.func (.func 185) ⟨[]⟩ ⟨[(.pointer p)]⟩)] h Q:=bG dR Tryz.func167 (aj hx)
theorem mC (a:OA)(n c:Nat)(p:OA)(lim:Int)(Inv:Nat->Nat->Int->OA->Nat->Nat->Heap->Prop)(Q:VH)(step: ∀ (mz:Nat) (i:Nat) (cy:Int) (r:OA) (rn rc:Nat) (zz:Nat->Value) (h:Heap),Inv mz i cy r rn rc h->au (decide (((i:Int):Int) < lim)) (au (decide (((i:Int):Int) < (n:Int))) (xP (ag SS.P 136 (.slice a n c) (iA i)) fun p2=>xI .u64 (ah SS.P 103 h (.pointer (some p2))) fun n3=>au (decide (((i:Int):Int) < 0)) (xP (ag SS.P 136 nA (iA i)) fun p4=>xI .u64 (ah SS.P 103 h (.pointer (some p4))) fun n5=>FW SS 185 [(.int .u64 n3),(.int .u64 n5),(.int .u64 cy),(.pointer p)] h fun v6 h7=> ∃ n8:Int,∃ n9:Int,v6=(.tuple ⟨[(.int .u64 n8),(.int .u64 n9)]⟩)/\xR (ak SS.P 136 1 [(0,(.int .u64 n8))]) h7 fun B10 n11 c12 g13=>xE (ay SS.P 136 136 (.slice r rn rc) (sA (h7.next) n11 c12) g13) g13 fun a14 n15 c16 u17 g18=>ax (wp (ck a n c p lim) Inv) mz [(.slice a n c),nA,(.func (.func 185) ⟨[]⟩ ⟨[(.pointer p)]⟩),(.slice a14 n15 c16),(.int .u64 n9),(.int .i64 lim),(.int .i64 (wrap .i64 ((i:Int)+1)))] g18) (FW SS 185 [(.int .u64 n3),(.int .u64 0),(.int .u64 cy),(.pointer p)] h fun v19 h20=> ∃ n21:Int,∃ n22:Int,v19=(.tuple ⟨[(.int .u64 n21),(.int .u64 n22)]⟩)/\xR (ak SS.P 136 1 [(0,(.int .u64 n21))]) h20 fun B23 n24 c25 g26=>xE (ay SS.P 136 136 (.slice r rn rc) (sA (h20.next) n24 c25) g26) g26 fun a27 n28 c29 u30 g31=>ax (wp (ck a n c p lim) Inv) mz [(.slice a n c),nA,(.func (.func 185) ⟨[]⟩ ⟨[(.pointer p)]⟩),(.slice a27 n28 c29),(.int .u64 n22),(.int .i64 lim),(.int .i64 (wrap .i64 ((i:Int)+1)))] g31)) (au (decide (((i:Int):Int) < 0)) (xP (ag SS.P 136 nA (iA i)) fun p32=>xI .u64 (ah SS.P 103 h (.pointer (some p32))) fun n33=>FW SS 185 [(.int .u64 0),(.int .u64 n33),(.int .u64 cy),(.pointer p)] h fun v34 h35=> ∃ n36:Int,∃ n37:Int,v34=(.tuple ⟨[(.int .u64 n36),(.int .u64 n37)]⟩)/\xR (ak SS.P 136 1 [(0,(.int .u64 n36))]) h35 fun B38 n39 c40 g41=>xE (ay SS.P 136 136 (.slice r rn rc) (sA (h35.next) n39 c40) g41) g41 fun a42 n43 c44 u45 g46=>ax (wp (ck a n c p lim) Inv) mz [(.slice a n c),nA,(.func (.func 185) ⟨[]⟩ ⟨[(.pointer p)]⟩),(.slice a42 n43 c44),(.int .u64 n37),(.int .i64 lim),(.int .i64 (wrap .i64 ((i:Int)+1)))] g46) (FW SS 185 [(.int .u64 0),(.int .u64 0),(.int .u64 cy),(.pointer p)] h fun v47 h48=> ∃ n49:Int,∃ n50:Int,v47=(.tuple ⟨[(.int .u64 n49),(.int .u64 n50)]⟩)/\xR (ak SS.P 136 1 [(0,(.int .u64 n49))]) h48 fun B51 n52 c53 g54=>xE (ay SS.P 136 136 (.slice r rn rc) (sA (h48.next) n52 c53) g54) g54 fun a55 n56 c57 u58 g59=>ax (wp (ck a n c p lim) Inv) mz [(.slice a n c),nA,(.func (.func 185) ⟨[]⟩ ⟨[(.pointer p)]⟩),(.slice a55 n56 c57),(.int .u64 n50),(.int .i64 lim),(.int .i64 (wrap .i64 ((i:Int)+1)))] g59))) (FW SS 142 [(.slice r rn rc)] h fun v60 h61=>yL v60 fun a62 n63 c64=>Q (.slice a62 n63 c64) h61))(mz:Nat){i:Nat}{cy:Int}{r:OA}{rn rc:Nat}{h:Heap}(hi:Inv mz i cy r rn rc h):LL SS dR [1,1,1,0,1,0,0] (ck a n c p lim i cy r rn rc) h (KK SS dR [1,1,1,0,1,0] [] (EE SS dR Q)):=
 xK (ck a n c p lim) Inv (fun mz i cy r rn rc zz h hi=>aj (step mz i cy r rn rc zz h hi)) mz hi
noncomputable def BP:FD:=bF Tryz.f175 []
theorem zJ (a:OA)(n c:Nat)(k:Int)(h:Heap)(Q:VH)(hx:xN (dc SS.P 103 (.int .u64 k)) h fun B1 g2=>FW SS 167 [(.slice a n c),nA,(.func (.func 185) ⟨[]⟩ ⟨[(pA (h.next))]⟩)] g2 fun v3 h4=>yL v3 fun a5 n6 c7=>Q (.slice a5 n6 c7) h4):FW SS 175 [(.slice a n c),(.int .u64 k)] h Q:=bG BP Tryz.func175 (aj hx)
def uv (d:Nat):Value:= .int .u64 (d:Int)
theorem sT:SS.P.underlying 136=some (.slice 103):=by kernel_rfl
theorem ET:SS.P.underlying 103=some (.int .u64):=by kernel_rfl
theorem uD:an SS.P 103=some 1:=by kernel_rfl
theorem FL:Go.Ab.isAgg SS.P 103=false:=by kernel_rfl
noncomputable def re103:TypeInfo:=(cL SS.P 103).getD default
theorem Bu:cL SS.P 103=some re103:=by kernel_rfl
theorem we:re103.size=1:=by kernel_rfl
theorem tD:re103.bytes=8:=by kernel_rfl
theorem mq (z:Int):ak SS.P 136 1 [(0,.int .u64 z)]=some (.cells [.int .u64 z] 103 1 true,gU 1 1):=by kernel_rfl
theorem gL {h0 h:Heap}(w0:Wf h0)(ok:Ok h0 h){v:Value}{vs:List Value}(o:OwnR h0 h 103 v vs)(z:Int)(hl:vs.length<=100000):
  ∃ (b:Option Addr)(n c:Nat)(u:Upd),ay SS.P 136 136 v (.slice (some ⟨h.next,0,none⟩) 1 1) (h.push (.cells [.int .u64 z] 103 1 true))=some (.slice b n c,u)/\n=vs.length+1/\OwnR h0 (u.app (h.push (.cells [.int .u64 z] 103 1 true))) 103 (.slice b n c) (vs++[.int .u64 z])/\Ok h0 (u.app (h.push (.cells [.int .u64 z] 103 1 true))):=
 OwnR.snoc sT Bu we w0 ok o rfl (by rw [tD]; omega) (by omega)
theorem Lc (l:List Nat)(i:Nat)(h:i < l.length):(l.map uv).getD i undef = .int .u64 (l.getD i 0:Nat):=by
 simp [gD,getElem?_map,gE h,uv]
theorem xJ {h:Heap}{v:Value}{l:List Nat}(r:Rd h 103 v (l.map uv)){i:Int}(h0:0<=i)(h1:i < l.length):
  ∃ p:Addr,ag SS.P 136 v (.int .i64 i)=some (.pointer (some p))/\ah SS.P 103 h (.pointer (some p))=some (.int .u64 (l.getD i.toNat 0:Nat)):=by
 obtain ⟨p,h2,h3⟩:=r.at_ sT uD ET FL (k:= .i64) h0 (by rw [lM]; exact h1);rw [Lc l _ (by omega)] at h3;exact ⟨p,h2,h3⟩
theorem lj {h0 h:Heap}{a:Option Addr}{n c:Nat}{l:List Nat}(o:OwnR h0 h 103 (.slice a n c) (l.map uv))(hlen:l.length<=100000):
  FW SS 142 [.slice a n c] h (fun v h'=> ∃ a' n' c',v = .slice a' n' c'/\OwnR h0 h 103 (.slice a' n' c') ((Num.trimL l).map uv)/\h'=h):=by
 have hn:n=l.length:=by have:=o.len; rwa [lM] at this
 have L:=jB a n c (fun mz r m d g=>m<=l.length/\mz=m/\OwnR h0 h 103 (.slice r m d) ((l.take m).map uv)/\Num.trimL l=Num.trimL (l.take m)/\g=h) (fun v h'=> ∃ a' n' c',v = .slice a' n' c'/\OwnR h0 h 103 (.slice a' n' c') ((Num.trimL l).map uv)/\h'=h) (by
  intro mz r m d; intros; rename_i g hi;obtain ⟨h1,rfl,h3,h4,rfl⟩:=hi;have hw:wrap .i64 ((mz:Int) - 1)=(mz:Int) - 1:=am (by omega) (by omega);rw [hw];have hm:mz≠0->l.take mz=l.take (mz - 1)++[l.getD (mz - 1) 0]:=fun hm=>by
   obtain ⟨j,rfl⟩: ∃ j,mz=j+1:=⟨mz - 1,by omega⟩
   rw [List.take_succ_eq_append_getElem (by omega),add_sub_cancel,gD,gE (by omega)]; rfl
  refine ae (fun h5=> ?_) (fun h5=> ?_)
  ·have h5:=dT h5;obtain ⟨p,g2,g3⟩:=xJ h3.rd (i:=(mz:Int) - 1) (by omega) (by rw [length_take]; omega);have e1:(l.take mz).getD ((mz:Int) - 1).toNat 0=l.getD (mz - 1) 0:=by
    rw [show ((mz:Int) - 1).toNat=mz - 1 by omega,gD,getElem?_take,if_pos (by omega),gD]
   rw [e1] at g3;refine ⟨p,g2,_,g3,ae (fun h6=> ?_) (fun h6=> ?_)⟩
   ·have h6:((l.getD (mz - 1) 0:Nat):Int)=0:=by simpa using h6
    have h6:l.getD (mz - 1) 0=0:=by omega
    obtain ⟨a',n',c',g4,g5⟩:=h3.upto sT uD (z:=mz - 1) (by rw [lM,length_take]; omega) (by rw [lM,length_take]; omega);rw [show ((mz:Int) - 1)=((mz - 1:Nat):Int) by omega];have hn':n'=mz - 1:=by have:=g5.len; rw [length_take,lM,length_take] at this; omega
    subst hn';refine ⟨a',_,c',g4,uX (mz - 1) (by omega) ⟨by omega,rfl,?_,?_,rfl⟩⟩
    ·rw [<-map_take,take_take,min_eq_left (by omega)] at g5;exact g5
    ·rw [h4,hm (by omega),h6,Num.trimL_snoc_zero]
   ·have h6: ¬ ((l.getD (mz - 1) 0:Nat):Int)=0:=by simpa using h6
    refine ⟨r,mz,d,rfl,?_,rfl⟩;rw [h4,hm (by omega),Num.trimL_snoc_pos _ (by omega),<-hm (by omega)];exact h3
  ·have h5:=dF h5;obtain rfl:mz=0:=by omega
   refine ⟨r,0,d,rfl,?_,rfl⟩;rw [h4];exact h3)
 exact vD a n c h _ (L n ⟨by omega,rfl,by rw [show l.take n=l by rw [hn,take_length]]; exact o,by rw [show l.take n=l by rw [hn,take_length]],rfl⟩)
theorem wT {l:List UInt8}{i:Nat}(h:i < l.length):Num.val (l.take (i+1))=10*Num.val (l.take i)+Num.dv (l.getD i 0):=Num.val_take_succ (getE h)
theorem GU (l:List UInt8){h:Heap}{b:Nat}(h2:b<=l.length):aH SS.P 9 (aa l) none (some (.int .i64 (b:Int))) none h=some (aa (l.take b)):=ji (a:=0) M7 l rfl rfl (by omega) h2
theorem BV {s:List UInt8}{cut:Nat}(hc:cut=s.length - 9)(hs:0 < s.length):Num.val s=Num.val (s.drop cut)+10 ^ (s.length - cut)*Num.val (s.take cut):=by
 have:=Num.val_append (s.take cut) (s.drop cut);rw [take_append_drop,length_drop,mul_comm] at this;omega
theorem lG (l:List UInt8)(hd:l.all Num.isDig=true)(hlen:l.length<=10000)(h:Heap)(w:Wf h):FW SS 140 [aa l] h (ew h 103 ((Num.toB 1000000000 (Num.val l)).map uv)):=by
 have L1:=mG l (fun mz s r rn rc g=>mz=s.length/\s.all Num.isDig=true/\s.length<=10000/\Ok h g/\ ∃ bs:List Nat,(∀ d∈bs,d < 1000000000)/\bs.length+s.length<=10000/\OwnR h g 103 (.slice r rn rc) (bs.map uv)/\Num.val l=Num.bv 1000000000 bs+1000000000 ^ bs.length*Num.val s) (ew h 103 ((Num.toB 1000000000 (Num.val l)).map uv)) (by
  intro mz s r rn rc; intros; rename_i g hi;obtain ⟨rfl,hs,hsl,ok,bs,hb1,hb2,ho,hv⟩:=hi;refine ae (fun h5=> ?_) (fun h5=> ?_)
  ·have h5:=dT h5;have hw:wrap .i64 ((s.length:Int) - 9)=(s.length:Int) - 9:=am (by omega) (by omega);rw [hw];have hcut:(if (s.length:Int) - 9 > 0 then (s.length:Int) - 9 else 0)=((s.length - 9:Nat):Int):=by split <;> omega
   refine ⟨_,rj _ _ _,?_⟩;rw [hcut];have L2:=nc l (fun mz s r rn rc g=>mz=s.length/\s.all Num.isDig=true/\s.length<=10000/\Ok h g/\ ∃ bs:List Nat,(∀ d∈bs,d < 1000000000)/\bs.length+s.length<=10000/\OwnR h g 103 (.slice r rn rc) (bs.map uv)/\Num.val l=Num.bv 1000000000 bs+1000000000 ^ bs.length*Num.val s) s.length s r rn rc ((s.length - 9:Nat):Int)
    (fun mz2 i v g2=> ∃ j:Nat,i=(s.length - 9:Nat)+(j:Int)/\s.length - 9+j<=s.length/\mz2=s.length - (s.length - 9+j)/\v=(Num.val ((s.drop (s.length - 9)).take j):Nat)/\g2=g) (ew h 103 ((Num.toB 1000000000 (Num.val l)).map uv)) (by
    intro mz2 i v; intros; rename_i g2 hi2;obtain ⟨j,rfl,hj,hmz,rfl,rfl⟩:=hi2;have hdd:(s.drop (s.length - 9)).all Num.isDig=true:=by
     rw [all_eq_true] at hs ⊢;exact fun x hx=>hs x (mem_of_mem_drop hx)
    have hlt:=Num.val_lt (l:=(s.drop (s.length - 9)).take j) (by
     rw [all_eq_true] at hdd ⊢;exact fun x hx=>hdd x (mem_of_mem_take hx))
    have hlt9:Num.val ((s.drop (s.length - 9)).take j) < 1000000000:=by
     refine lt_of_lt_of_le hlt (le_trans (pow_le_pow_right (by omega) (show _<=9 by rw [length_take,length_drop]; omega)) (by decide))
    refine ae (fun h6=> ?_) (fun h6=> ?_)
    ·have h6:=dT h6;have hin:s.length - 9+j < s.length:=by omega
     have hdig:=vR hs hin;have hdr:=Num.isDig_iff.1 hdig;have hdv:=Num.dv_lt hdig;refine ⟨_,tP (h:=g2) s (by omega) h6,?_⟩;have hi':(((s.length - 9:Nat):Int)+(j:Int)).toNat=s.length - 9+j:=by omega
     rw [hi'];have e1:wrap .u8 ((((s.getD (s.length - 9+j) 0).toNat:Nat):Int) - 48)=(Num.dv (s.getD (s.length - 9+j) 0):Nat):=by
      rw [lU (by omega) (by omega)]; unfold Num.dv; omega
     have e2:(s.drop (s.length - 9)).getD j 0=s.getD (s.length - 9+j) 0:=by
      rw [gD,List.getElem?_drop,gD]
     have e3:=wT (l:=s.drop (s.length - 9)) (i:=j) (by rw [length_drop]; omega);rw [e2] at e3;dsimp only;rw [e1,cJ (n:=((Num.dv (s.getD (s.length - 9+j) 0):Nat):Int)) (by omega) (by omega),cJ (n:=10*((Num.val ((s.drop (s.length - 9)).take j):Nat):Int)) (by omega) (by omega),cJ (by omega) (by omega),am (n:=((s.length - 9:Nat):Int)+(j:Int)+1) (by omega) (by omega)];exact gO (mz2 - 1) (by omega) ⟨j+1,by omega,by omega,by omega,by rw [e3]; omega,rfl⟩
    ·have h6:=dF h6;have hjl:(s.drop (s.length - 9)).take j=s.drop (s.length - 9):=take_of_length_le (by rw [length_drop]; omega);rw [hjl] at hlt9 ⊢;refine ⟨_,_,_,mq _,?_⟩;obtain ⟨b,m,d,u,g6,g7,g8,g9⟩:=gL w ok ho ((Num.val (s.drop (s.length - 9)):Nat):Int) (by rw [lM]; omega);refine ⟨b,m,d,u,g6,?_⟩;refine ⟨_,GU s (show s.length - 9<=s.length by omega),?_⟩;refine fG (s.take (s.length - 9)).length (by rw [length_take]; omega) ⟨rfl,?_,by rw [length_take]; omega,g9,bs++[Num.val (s.drop (s.length - 9))],?_,?_,?_,?_⟩
     ·rw [all_eq_true] at hs ⊢;exact fun x hx=>hs x (mem_of_mem_take hx)
     ·intro x hx;rcases List.mem_append.1 hx with hx | hx
      ·exact hb1 x hx
      ·rw [List.mem_singleton.1 hx]; exact hlt9
     ·rw [length_append,length_take]; simp; omega
     ·rw [map_append]; exact g8
     ·rw [Num.bv_snoc,length_append,hv,BV (s:=s) rfl (by omega),List.length_singleton];rcases lt_or_ge s.length 10 with h7 | h7
      ·rw [show s.length - 9=0 by omega,take_zero,Num.val_nil];simp
      ·rw [show s.length - (s.length - 9)=9 by omega,show (10:Nat) ^ 9=1000000000 from rfl,pow_succ,mul_add,mul_assoc];omega)
   exact L2 _ ⟨0,by omega,by omega,rfl,by simp [Num.val_nil],rfl⟩
  ·have h5:=dF h5;obtain rfl:s=[]:=eq_nil_of_length_eq_zero (by omega);refine (lj ho (by omega)).mono ?_;rintro _ g2 ⟨a',n',c',rfl,o2,rfl⟩;refine ⟨a',n',c',rfl,a',n',c',rfl,?_,ok⟩;rw [hv,Num.val_nil,mul_zero,add_zero,<-Num.trimL_eq (by omega) hb1];exact o2)
 exact zf l h _ (L1 l.length ⟨rfl,hd,hlen,Ok.refl w,[],by simp,by simpa using hlen,.inl ⟨rfl,rfl⟩,by simp [Num.bv]⟩)
end Go.Proofs.YtoabjjimjldcfaaGreatDoor
end
section
namespace Go.Num
theorem bv_lt_of_top {b:Nat}(hb:1 < b){x y:List Nat}(hx: ∀ d∈x,d < b)(hl:x.length=y.length){j:Nat}(hj:j < x.length)(hd:x.drop (j+1)=y.drop (j+1))(hlt:x.getD j 0 < y.getD j 0):bv b x < bv b y:=by
 have h1:=qB b x j (by omega);have h2:=qB b y j (by omega);rw [bv_drop] at h1 h2;rw [h1,h2,hd];have h3:=bv_lt (b:=b) (x:=x.take j) (fun d hm=>hx d (mem_of_mem_take hm));rw [length_take,min_eq_left (by omega)] at h3;have h4:=mul_le_mul_left (b ^ j) (succ_le_of_lt (Nat.add_lt_add_right hlt (b*bv b (y.drop (j+1)))));rw [mul_succ] at h4;omega
theorem toB_len_lt {b:Nat}(hb:1 < b){m n:Nat}(h:(toB b m).length < (toB b n).length):m < n:=by
 have hn:0 < n:=by
  rcases eq_zero_or_pos n with e | e
  ·subst e; rw [toB_zero] at h; simp at h
  ·exact e
 have h1:=bv_lt (toB_lt hb m);rw [bv_toB hb] at h1;have h2:=pi hb hn;have h3:b ^ (toB b m).length<=b ^ ((toB b n).length - 1):=pow_le_pow_right (by omega) (by omega);omega
end Go.Num
end
section
set_option linter.unusedVariables false
set_option maxRecDepth 100000
namespace Go.Proofs.YtoabjjimjldcfaaGreatDoor
open Go Go.Ab
theorem Fh (x:Int)(h:Heap):FW SS 179 [.int .u64 x] h (fun v h'=>v = .bool false/\h'=h):=MW x h _ ⟨by simp,rfl⟩
theorem FQ (x:Int)(h:Heap):FW SS 82 [.int .i64 x] h (fun v h'=>v = .bool false/\h'=h):=ME x h _ ⟨by simp,rfl⟩
theorem Mv (m n:Nat)(h:Heap):FW SS 169 [.int .u64 (m:Int),.int .u64 (n:Int)] h (fun v h'=>v = .int .i64 (Num.cmpN m n)/\h'=h):=by
 refine Lv _ _ h _ ((Fh _ h).mono ?_);rintro _ _ ⟨rfl,rfl⟩;refine ⟨_,rfl,(Fh _ _).mono ?_⟩;rintro _ _ ⟨rfl,rfl⟩;refine ⟨_,rfl,ae (fun e=>by cases e) (fun _=>ae (fun e=>by cases e) (fun _=>ae (fun h1=> ?_) (fun h1=>ae (fun h2=> ?_) (fun h2=> ?_))))⟩
 ·exact ⟨by rw [Num.cmpN_lt (by have:=dT h1; omega)],rfl⟩
 ·exact ⟨by rw [Num.cmpN_gt (by have:=dT h2; omega)],rfl⟩
 ·have h1:=dF h1;have h2:=dF h2;exact ⟨by rw [show m=n by omega,Num.cmpN_eq],rfl⟩
theorem LR (m n:Nat)(h:Heap):FW SS 70 [.int .i64 (m:Int),.int .i64 (n:Int)] h (fun v h'=>v = .int .i64 (Num.cmpN m n)/\h'=h):=by
 refine LD _ _ h _ ((FQ _ h).mono ?_);rintro _ _ ⟨rfl,rfl⟩;refine ⟨_,rfl,(FQ _ _).mono ?_⟩;rintro _ _ ⟨rfl,rfl⟩;refine ⟨_,rfl,ae (fun e=>by cases e) (fun _=>ae (fun e=>by cases e) (fun _=>ae (fun h1=> ?_) (fun h1=>ae (fun h2=> ?_) (fun h2=> ?_))))⟩
 ·exact ⟨by rw [Num.cmpN_lt (by have:=dT h1; omega)],rfl⟩
 ·exact ⟨by rw [Num.cmpN_gt (by have:=dT h2; omega)],rfl⟩
 ·have h1:=dF h1;have h2:=dF h2;exact ⟨by rw [show m=n by omega,Num.cmpN_eq],rfl⟩
abbrev BB:Nat:=1000000000
abbrev bl (n:Nat):List Value:=(Num.toB BB n).map uv
theorem dx:1 < BB:=by decide
theorem kj {h:Heap}{a b:Option Addr}{n c m d:Nat}{x y:Nat}(ra:Rd h 103 (.slice a n c) (bl x))(rb:Rd h 103 (.slice b m d) (bl y))(hlen:(Num.toB BB x).length<=10000)(w:Wf h):
  FW SS 160 [.slice a n c,.slice b m d] h (fun v h'=>v = .int .i64 (Num.cmpN x y)/\Ok h h'):=by
 have hn:n=(Num.toB BB x).length:=by have:=ra.len; rwa [lM] at this
 have hm:m=(Num.toB BB y).length:=by have:=rb.len; rwa [lM] at this
 have L:=fun (hl:(Num.toB BB x).length=(Num.toB BB y).length)=>mB a n c b m d (fun mz i g=>i<=n/\mz=n - i/\(Num.toB BB x).drop (n - i)=(Num.toB BB y).drop (n - i)/\Ok h g) (fun v h'=>v = .int .i64 (Num.cmpN x y)/\Ok h h') (by
  intro mz i; intros; rename_i g hi;obtain ⟨h1,h2,h3,ok⟩:=hi;have hw1:wrap .i64 ((n:Int) - 1)=(n:Int) - 1:=am (by omega) (by omega);have hw2:wrap .i64 ((n:Int) - 1 - (i:Int))=(n:Int) - 1 - (i:Int):=am (by omega) (by omega);have hw3:wrap .i64 ((i:Int)+1)=((i+1:Nat):Int):=by rw [am (by omega) (by omega)]; omega
  rw [hw1,hw2,hw3];have ok':=ok.room 18;refine ae (fun h5=> ?_) (fun h5=> ?_)
  ·have h5:=dT h5;have hj:((n:Int) - 1 - (i:Int)).toNat=n - 1 - i:=by omega
   obtain ⟨p,g2,g3⟩:=xJ (ra.ok ok') (i:=(n:Int) - 1 - (i:Int)) (by omega) (by omega);obtain ⟨q,g4,g5⟩:=xJ (rb.ok ok') (i:=(n:Int) - 1 - (i:Int)) (by omega) (by omega);rw [hj] at g3 g5;refine ⟨p,g2,_,g3,q,g4,_,g5,(Mv _ _ _).mono ?_⟩;rintro _ _ ⟨rfl,rfl⟩;have hd:(Num.toB BB x).drop (n - 1 - i+1)=(Num.toB BB y).drop (n - 1 - i+1):=by rw [show n - 1 - i+1=n - i by omega]; exact h3
   refine ⟨_,rfl,ae (fun h6=> ?_) (fun h6=> ?_)⟩
   ·refine ⟨?_,ok'⟩;have h6:Num.cmpN ((Num.toB BB x).getD (n - 1 - i) 0) ((Num.toB BB y).getD (n - 1 - i) 0)≠0:=by simpa using h6
    rcases Nat.lt_trichotomy ((Num.toB BB x).getD (n - 1 - i) 0) ((Num.toB BB y).getD (n - 1 - i) 0) with h7 | h7 | h7
    ·have:=Num.bv_lt_of_top dx (Num.toB_lt dx x) hl (by omega) hd h7;rw [Num.bv_toB dx,Num.bv_toB dx] at this;rw [Num.cmpN_lt h7,Num.cmpN_lt this]
    ·rw [h7,Num.cmpN_eq] at h6; exact absurd rfl h6
    ·have:=Num.bv_lt_of_top dx (Num.toB_lt dx y) hl.symm (by omega) hd.symm h7;rw [Num.bv_toB dx,Num.bv_toB dx] at this;rw [Num.cmpN_gt h7,Num.cmpN_gt this]
   ·have h6:Num.cmpN ((Num.toB BB x).getD (n - 1 - i) 0) ((Num.toB BB y).getD (n - 1 - i) 0)=0:=by simpa using h6
    have h7:(Num.toB BB x).getD (n - 1 - i) 0=(Num.toB BB y).getD (n - 1 - i) 0:=by
     unfold Num.cmpN at h6;split at h6
     ·cases h6
     ·split at h6
      ·assumption
      ·cases h6
    refine bp (mz - 1) (by omega) ⟨by omega,by omega,?_,ok'⟩;rw [show n - (i+1)=n - 1 - i by omega,drop_eq_getElem_cons (show n - 1 - i < (Num.toB BB x).length by omega),drop_eq_getElem_cons (show n - 1 - i < (Num.toB BB y).length by omega),hd];congr 1;rw [gD,gE (by omega),gD,gE (by omega)] at h7;exact h7
  ·have h5:=dF h5;rw [show n - i=0 by omega,drop_zero,drop_zero] at h3;have:x=y:=by rw [<-Num.bv_toB dx x,h3,Num.bv_toB dx]
   exact ⟨by rw [this,Num.cmpN_eq],ok⟩)
 refine xj a n c b m d h _ (ae (fun h1=>(LR _ _ h).mono ?_) (fun h1=> ?_))
 ·rintro _ _ ⟨rfl,rfl⟩;have h1:=C0 h1;refine ⟨_,rfl,?_,Ok.refl w⟩;rcases Nat.lt_trichotomy n m with h2 | h2 | h2
  ·rw [Num.cmpN_lt h2,Num.cmpN_lt (Num.toB_len_lt dx (by omega))]
  ·exact absurd h2 h1
  ·rw [Num.cmpN_gt h2,Num.cmpN_gt (Num.toB_len_lt dx (by omega))]
 ·have h1:=EJ h1;refine L (by omega) n (i:=0) ⟨by omega,by omega,?_,Ok.refl w⟩;rw [sub_zero,drop_of_length_le (by omega),drop_of_length_le (by omega)]
theorem Ke {P:Program}{t:TypeId}{h h':Heap}{p v:Value}(o:Ok h h')(hl:ah P t h p=some v):ah P t h' p=some v:=by
 unfold ah at hl ⊢;split at hl
 ·next hu=>
  split at hl
  ·next cs _ _ _ hk=>rw [o.ext _ _ hk]; exact hl
  ·cases hl
 ·cases hl
theorem En {h:Heap}{p:Option Addr}{k:Nat}(hp:ah SS.P 103 h (.pointer p)=some (.int .u64 (k:Int)))(x y z:Nat)(hx:x < BB)(hk:k<=BB)(hz:z < BB):
  FW SS 185 [.int .u64 (x:Int),.int .u64 (y:Int),.int .u64 (z:Int),.pointer p] h (fun v h'=>v = .tuple ⟨[uv (Num.scaleF BB k x y z).1,uv (Num.scaleF BB k x y z).2]⟩/\h'=h):=by
 have hBv:BB=1000000000:=rfl;have h1:x*k<=1000000000000000000:=le_trans (mul_le_mul (Nat.le_of_lt hx) hk) (by decide);have e1:wrap .u64 ((x:Int)*(k:Int))=((x*k:Nat):Int):=by rw [<-Int.natCast_mul]; exact cJ (by omega) (by omega)
 have e2:wrap .u64 (((x*k:Nat):Int)+(z:Int))=((x*k+z:Nat):Int):=by rw [<-Int.natCast_add]; exact cJ (by omega) (by omega)
 refine EO _ _ _ p h _ ⟨_,hp,?_⟩;dsimp only;rw [e1,e2];refine ⟨_,dy (b:=BB) (by omega) (by decide),_,jT (b:=BB) (by omega) (by omega) (by decide),?_,rfl⟩;unfold uv Num.scaleF;rw [Int.natCast_emod,Int.natCast_ediv]
theorem wS {h:Heap}{a:Option Addr}{n c:Nat}{p:Option Addr}{k:Nat}{x:List Nat}(ra:Rd h 103 (.slice a n c) (x.map uv))(hx: ∀ d∈x,d < BB)(hlen:x.length<=10000)(hp:ah SS.P 103 h (.pointer p)=some (.int .u64 (k:Int)))(hk0:0 < k)(hk:k<=BB)(w:Wf h):
  FW SS 167 [.slice a n c,.slice none 0 0,.func (.func 185) ⟨[]⟩ ⟨[.pointer p]⟩] h (ew h 103 (bl (Num.bv BB x*k))):=by
 have hn:n=x.length:=by have:=ra.len; rwa [lM] at this
 have hBv:BB=1000000000:=rfl;have hF: ∀ p q c,c<=BB - 1->p < BB->(Num.scaleF BB k p q c).2<=BB - 1:=fun p q c hc hp=>by
  unfold Num.scaleF;dsimp only;have h1:p*k<=999999999*1000000000:=mul_le_mul (by omega) hk;have:(p*k+c) / BB < BB:=div_lt_of_lt_mul (by rw [hBv]; omega);omega
 have hcr: ∀ j,Num.cr (Num.scaleF BB k) x [] 0 0 j<=BB - 1:=by
  intro j
  induction j with
  | zero=>exact zero_le _
  | succ j ih=>exact hF _ _ _ ih (Num.getD_lt (by decide) hx _)
 have fin:Num.trimL (Num.eachF (Num.scaleF BB k) x [] 0 (n+1) 0)=Num.toB BB (Num.bv BB x*k):=by
  rw [Num.trimL_eq dx (Num.eachF_lt (fun p q c=>mod_lt _ (by decide)) x [] (n+1) 0 0),Num.scale_bv dx hk hk0 hx (n+1) 0 0 (by omega) hk0 (by omega)];rw [drop_zero,add_zero]
 have L:=mC a n c p ((n:Int)+1) (fun mz i cy r rn rc g=>i<=n+1/\mz=n+1 - i/\cy=(Num.cr (Num.scaleF BB k) x [] 0 0 i:Nat)/\OwnR h g 103 (.slice r rn rc) ((Num.eachF (Num.scaleF BB k) x [] 0 i 0).map uv)/\Ok h g) (ew h 103 (bl (Num.bv BB x*k))) (by
  intro mz i cy r rn rc; intros; rename_i g hi;obtain ⟨h1,h2,rfl,ho,ok⟩:=hi;have hw3:wrap .i64 ((i:Int)+1)=((i+1:Nat):Int):=by rw [am (by omega) (by omega)]; omega
  rw [hw3];have hel:(Num.eachF (Num.scaleF BB k) x [] 0 i 0).length=i:=Num.eachF_len _ _ _ _ _ _;have hsn:=Num.eachF_snoc (Num.scaleF BB k) x [] i 0 0;rw [zero_add] at hsn;have hcr1:Num.cr (Num.scaleF BB k) x [] 0 0 (i+1)=(Num.scaleF BB k (x.getD i 0) (([]:List Nat).getD i 0) (Num.cr (Num.scaleF BB k) x [] 0 0 i)).2:=by
   show (Num.scaleF BB k (x.getD (0+i) 0) (([]:List Nat).getD (0+i) 0) _).2=_;rw [zero_add]
  have hci:=hcr i;have hxi:=Num.getD_lt (b:=BB) (by decide) hx i;have hp':=Ke ok hp;have go:=En hp' (x.getD i 0) (([]:List Nat).getD i 0) (Num.cr (Num.scaleF BB k) x [] 0 0 i) hxi hk (by omega);have y0:([]:List Nat).getD i 0=0:=by simp
  refine ae (fun h5=> ?_) (fun h5=> ?_)
  ·have h5:=dT h5;refine ae (fun h6=> ?_) (fun h6=> ?_)
   ·have h6:=dT h6;obtain ⟨q,g2,g3⟩:=xJ (ra.ok ok) (i:=(i:Int)) (by omega) (by omega);rw [toNat_natCast] at g3;refine ⟨q,g2,_,g3,ae (fun h7=> ?_) (fun h7=> ?_)⟩
    ·have:=dT h7; omega
    ·refine (show FW SS 185 [.int .u64 ((x.getD i 0:Nat):Int),.int .u64 ((([]:List Nat).getD i 0:Nat):Int),.int .u64 ((Num.cr (Num.scaleF BB k) x [] 0 0 i:Nat):Int),.pointer p] g _ from go).mono ?_ |> (fun hh=>by rw [y0] at hh; exact hh)
     rintro _ _ ⟨rfl,rfl⟩;refine ⟨_,_,rfl,_,_,_,mq _,?_⟩;obtain ⟨b,m,d,u,g6,g7,g8,g9⟩:=gL w ok ho ((Num.scaleF BB k (x.getD i 0) (([]:List Nat).getD i 0) (Num.cr (Num.scaleF BB k) x [] 0 0 i)).1:Nat) (by rw [lM,hel]; omega);refine ⟨b,m,d,u,g6,jF (mz - 1) (by omega) ⟨by omega,by omega,by rw [hcr1],?_,g9⟩⟩;rw [hsn,map_append];exact g8
   ·have h6:=dF h6;have hx0:x.getD i 0=0:=by rw [gD,getElem?_eq_none (by omega)]; rfl
    refine ae (fun h7=> ?_) (fun h7=> ?_)
    ·have:=dT h7; omega
    ·refine (show FW SS 185 [.int .u64 ((x.getD i 0:Nat):Int),.int .u64 ((([]:List Nat).getD i 0:Nat):Int),.int .u64 ((Num.cr (Num.scaleF BB k) x [] 0 0 i:Nat):Int),.pointer p] g _ from go).mono ?_ |> (fun hh=>by rw [y0,hx0] at hh; exact hh)
     rintro _ _ ⟨rfl,rfl⟩;refine ⟨_,_,rfl,_,_,_,mq _,?_⟩;obtain ⟨b,m,d,u,g6,g7,g8,g9⟩:=gL w ok ho ((Num.scaleF BB k (x.getD i 0) (([]:List Nat).getD i 0) (Num.cr (Num.scaleF BB k) x [] 0 0 i)).1:Nat) (by rw [lM,hel]; omega);refine ⟨b,m,d,u,g6,jF (mz - 1) (by omega) ⟨by omega,by omega,by rw [hcr1],?_,g9⟩⟩;rw [hsn,map_append];exact g8
  ·have h5:=dF h5;obtain rfl:i=n+1:=by omega
   refine (lj ho (by rw [hel]; omega)).mono ?_;rintro _ g2 ⟨a',n',c',rfl,o2,rfl⟩;rw [fin] at o2;exact ⟨a',n',c',rfl,a',n',c',rfl,o2,ok⟩)
 refine wL a n c p h _ ⟨_,rj _ _ _,?_⟩;have hmx:(if (0:Int) > (n:Int) then (0:Int) else (n:Int))=(n:Int):=if_neg (by omega);have hw:wrap .i64 ((n:Int)+1)=(n:Int)+1:=am (by omega) (by omega);dsimp only;rw [hmx,hw];exact L (n+1) (i:=0) ⟨by omega,by omega,rfl,.inl ⟨rfl,rfl⟩,Ok.refl w⟩
noncomputable def aJ:FD:=bF Tryz.f176 [([1,1,1,1,0,0,0],[0,1,5,7,8]),([1,1,1,1,1,1,0,1,0,0],[0,1,5,7,9,10,87,88]),([1,1,1,1,1,1,1,1,1,0,1,0,0],[0,1,5,7,10,128,129])]
abbrev cm (a:OA)(n c:Nat)(b:OA)(m d:Nat)(q rest:Int):LV:=[(.slice a n c),(.slice b m d),(iA m),(.int .u64 q),(.int .u64 rest)]
abbrev bA (a:OA)(n c:Nat)(b:OA)(m d:Nat)(q lim:Int)(i:Nat)(bo cy:Int):LV:=[(.slice a n c),(.slice b m d),(iA m),(.int .u64 q),(.int .u64 bo),(.int .u64 cy),(.int .i64 lim),(iA i)]
abbrev dJ (a:OA)(n c:Nat)(b:OA)(m d:Nat)(q lim:Int)(i:Nat)(cy:Int):LV:=[(.slice a n c),(.slice b m d),(iA m),(.int .u64 q),(.int .u64 cy),(.int .i64 lim),(iA i)]
theorem CH (a:OA)(n c:Nat)(b:OA)(m d:Nat)(h:Heap)(Q:VH)(hx:xP (ag SS.P 136 (.slice a n c) (iA m)) fun p1=>xI .u64 (ah SS.P 103 (room h 12) (.pointer (some p1))) fun n2=>xP (ag SS.P 136 (.slice a n c) (.int .i64 (wrap .i64 ((m:Int) - 1)))) fun p3=>xI .u64 (ah SS.P 103 (room h 12) (.pointer (some p3))) fun n4=>xP (ag SS.P 136 (.slice b m d) (.int .i64 (wrap .i64 ((m:Int) - 1)))) fun p5=>xI .u64 (ah SS.P 103 (room (room h 12) 16) (.pointer (some p5))) fun n6=>xI .u64 (al SS.P .quo 103 (.int .u64 (wrap .u64 (wrap .u64 (n2*1000000000)+n4))) (.int .u64 n6)) fun n7=>xP (ag SS.P 136 (.slice b m d) (.int .i64 (wrap .i64 ((m:Int) - 1)))) fun p8=>xI .u64 (ah SS.P 103 (room (room h 12) 16) (.pointer (some p8))) fun n9=>xI .u64 (al SS.P .rem 103 (.int .u64 (wrap .u64 (wrap .u64 (n2*1000000000)+n4))) (.int .u64 n9)) fun n10=>LL SS aJ [1,1,1,1,0,0,0] (cm a n c b m d n7 n10) (room (room h 12) 16) (KK SS aJ [1,1,1,1,0,0] [] (EE SS aJ Q))):FW SS 176 [(.slice a n c),(.slice b m d)] h Q:=bG aJ Tryz.func176 (aj hx)
theorem oy (a:OA)(n c:Nat)(b:OA)(m d:Nat)  (Inv:Nat->Int->Int->Heap->Prop) (Q:VH) (step: ∀ (mz:Nat)(q rest:Int)(zz:Nat->Value)(h:Heap),Inv mz q rest h->au (decide ((q:Int)>=1000000000)) (xP (ag SS.P 136 (.slice b m d) (.int .i64 (wrap .i64 ((m:Int) - 1)))) fun p11=>xI .u64 (ah SS.P 103 (room h 28) (.pointer (some p11))) fun n12=>au (decide ((wrap .u64 (rest+n12):Int)>=1000000000)) (au (decide ((wrap .u64 (q - 1):Int) < 1000000000)) (LL SS aJ [1,1,1,1,1,1,0,1,0,0] (bA a n c b m d (wrap .u64 (q - 1)) (wrap .i64 ((m:Int)+1)) 0 0 0) (room h 28) (KK SS aJ [1,1,1,1,1,1,0,1,0] [] (EE SS aJ Q))) (ax (qh (cm a n c b m d) Inv) mz [(.slice a n c),(.slice b m d),(iA m),(.int .u64 (wrap .u64 (q - 1))),(.int .u64 (wrap .u64 (rest+n12)))] (room h 28))) (ax (qh (cm a n c b m d) Inv) mz [(.slice a n c),(.slice b m d),(iA m),(.int .u64 (wrap .u64 (q - 1))),(.int .u64 (wrap .u64 (rest+n12)))] (room h 28))) (au (decide (((m:Int):Int) > 1)) (au (decide ((rest:Int) < 1000000000)) (xP (ag SS.P 136 (.slice b m d) (.int .i64 (wrap .i64 ((m:Int) - 2)))) fun p13=>xI .u64 (ah SS.P 103 (room h 28) (.pointer (some p13))) fun n14=>xP (ag SS.P 136 (.slice a n c) (.int .i64 (wrap .i64 ((m:Int) - 2)))) fun p15=>xI .u64 (ah SS.P 103 (room h 28) (.pointer (some p15))) fun n16=>au (decide ((wrap .u64 (q*n14):Int) > wrap .u64 (wrap .u64 (rest*1000000000)+n16))) (xP (ag SS.P 136 (.slice b m d) (.int .i64 (wrap .i64 ((m:Int) - 1)))) fun p17=>xI .u64 (ah SS.P 103 (room h 28) (.pointer (some p17))) fun n18=>au (decide ((wrap .u64 (rest+n18):Int)>=1000000000)) (au (decide ((wrap .u64 (q - 1):Int) < 1000000000)) (LL SS aJ [1,1,1,1,1,1,0,1,0,0] (bA a n c b m d (wrap .u64 (q - 1)) (wrap .i64 ((m:Int)+1)) 0 0 0) (room h 28) (KK SS aJ [1,1,1,1,1,1,0,1,0] [] (EE SS aJ Q))) (ax (qh (cm a n c b m d) Inv) mz [(.slice a n c),(.slice b m d),(iA m),(.int .u64 (wrap .u64 (q - 1))),(.int .u64 (wrap .u64 (rest+n18)))] (room h 28))) (ax (qh (cm a n c b m d) Inv) mz [(.slice a n c),(.slice b m d),(iA m),(.int .u64 (wrap .u64 (q - 1))),(.int .u64 (wrap .u64 (rest+n18)))] (room h 28))) (LL SS aJ [1,1,1,1,1,1,0,1,0,0] (bA a n c b m d q (wrap .i64 ((m:Int)+1)) 0 0 0) (room h 28) (KK SS aJ [1,1,1,1,1,1,0,1,0] [] (EE SS aJ Q)))) (LL SS aJ [1,1,1,1,1,1,0,1,0,0] (bA a n c b m d q (wrap .i64 ((m:Int)+1)) 0 0 0) (room h 28) (KK SS aJ [1,1,1,1,1,1,0,1,0] [] (EE SS aJ Q)))) (LL SS aJ [1,1,1,1,1,1,0,1,0,0] (bA a n c b m d q (wrap .i64 ((m:Int)+1)) 0 0 0) (room h 28) (KK SS aJ [1,1,1,1,1,1,0,1,0] [] (EE SS aJ Q))))) (mz:Nat) {q rest:Int} {h:Heap} (hi:Inv mz q rest h):LL SS aJ [1,1,1,1,0,0,0] (cm a n c b m d q rest) h (KK SS aJ [1,1,1,1,0,0] [] (EE SS aJ Q)):=
 ki (cm a n c b m d) Inv (fun mz q rest zz h hi=>aj (step mz q rest zz h hi)) mz hi
theorem oj (a:OA)(n c:Nat)(b:OA)(m d:Nat)(q lim:Int)(Inv:Nat->Nat->Int->Int->Heap->Prop)(Q:VH)(step: ∀ (mz:Nat) (i:Nat) (bo cy:Int) (zz:Nat->Value) (h:Heap),Inv mz i bo cy h->au (decide (((i:Int):Int) < lim)) (au (decide (((i:Int):Int) < (m:Int))) (xP (ag SS.P 136 (.slice b m d) (iA i)) fun p19=>xI .u64 (ah SS.P 103 h (.pointer (some p19))) fun n20=>xP (ag SS.P 136 (.slice a n c) (iA i)) fun p21=>xI .u64 (ah SS.P 103 h (.pointer (some p21))) fun n22=>xI .u64 (al SS.P .rem 103 (.int .u64 (wrap .u64 (cy+wrap .u64 (q*n20)))) (.int .u64 1000000000)) fun n23=>xI .u64 (al SS.P .rem 103 (.int .u64 (wrap .u64 (wrap .u64 (wrap .u64 (n22+1000000000) - n23) - bo))) (.int .u64 1000000000)) fun n24=>xI .u64 (al SS.P .quo 103 (.int .u64 (wrap .u64 (wrap .u64 (wrap .u64 (n22+1000000000) - n23) - bo))) (.int .u64 1000000000)) fun n25=>xI .u64 (al SS.P .quo 103 (.int .u64 (wrap .u64 (cy+wrap .u64 (q*n20)))) (.int .u64 1000000000)) fun n26=>xP (ag SS.P 136 (.slice a n c) (iA i)) fun p27=>xU (ai SS.P 103 (.pointer (some p27)) (.int .u64 n24) h) h fun u28 g29=>ax (GP (bA a n c b m d q lim) Inv) mz [(.slice a n c),(.slice b m d),(iA m),(.int .u64 q),(.int .u64 (wrap .u64 (1 - n25))),(.int .u64 n26),(.int .i64 lim),(.int .i64 (wrap .i64 ((i:Int)+1)))] g29) (xP (ag SS.P 136 (.slice a n c) (iA i)) fun p30=>xI .u64 (ah SS.P 103 h (.pointer (some p30))) fun n31=>xI .u64 (al SS.P .rem 103 (.int .u64 cy) (.int .u64 1000000000)) fun n32=>xI .u64 (al SS.P .rem 103 (.int .u64 (wrap .u64 (wrap .u64 (wrap .u64 (n31+1000000000) - n32) - bo))) (.int .u64 1000000000)) fun n33=>xI .u64 (al SS.P .quo 103 (.int .u64 (wrap .u64 (wrap .u64 (wrap .u64 (n31+1000000000) - n32) - bo))) (.int .u64 1000000000)) fun n34=>xI .u64 (al SS.P .quo 103 (.int .u64 cy) (.int .u64 1000000000)) fun n35=>xP (ag SS.P 136 (.slice a n c) (iA i)) fun p36=>xU (ai SS.P 103 (.pointer (some p36)) (.int .u64 n33) h) h fun u37 g38=>ax (GP (bA a n c b m d q lim) Inv) mz [(.slice a n c),(.slice b m d),(iA m),(.int .u64 q),(.int .u64 (wrap .u64 (1 - n34))),(.int .u64 n35),(.int .i64 lim),(.int .i64 (wrap .i64 ((i:Int)+1)))] g38)) (au (((bo:Int) == 0)) (Q (.int .u64 q) h) (LL SS aJ [1,1,1,1,1,1,1,1,1,0,1,0,0] (dJ a n c b m d q (wrap .i64 ((m:Int)+1)) 0 0) h (KK SS aJ [1,1,1,1,1,1,1,1,1,0,1,0] [] (EE SS aJ Q)))))(mz:Nat){i:Nat}{bo cy:Int}{h:Heap}(hi:Inv mz i bo cy h):LL SS aJ [1,1,1,1,1,1,0,1,0,0] (bA a n c b m d q lim i bo cy) h (KK SS aJ [1,1,1,1,1,1,0,1,0] [] (EE SS aJ Q)):=
 Cv (bA a n c b m d q lim) Inv (fun mz i bo cy zz h hi=>aj (step mz i bo cy zz h hi)) mz hi
theorem oF (a:OA)(n c:Nat)(b:OA)(m d:Nat)(q lim:Int)(Inv:Nat->Nat->Int->Heap->Prop)(Q:VH)(step: ∀ (mz:Nat) (i:Nat) (cy:Int) (zz:Nat->Value) (h:Heap),Inv mz i cy h->au (decide (((i:Int):Int) < lim)) (xP (ag SS.P 136 (.slice a n c) (iA i)) fun p39=>xI .u64 (ah SS.P 103 h (.pointer (some p39))) fun n40=>au (decide (((i:Int):Int) < (m:Int))) (xP (ag SS.P 136 (.slice b m d) (iA i)) fun p41=>xI .u64 (ah SS.P 103 h (.pointer (some p41))) fun n42=>xI .u64 (al SS.P .rem 103 (.int .u64 (wrap .u64 (wrap .u64 (n40+cy)+n42))) (.int .u64 1000000000)) fun n43=>xI .u64 (al SS.P .quo 103 (.int .u64 (wrap .u64 (wrap .u64 (n40+cy)+n42))) (.int .u64 1000000000)) fun n44=>xP (ag SS.P 136 (.slice a n c) (iA i)) fun p45=>xU (ai SS.P 103 (.pointer (some p45)) (.int .u64 n43) h) h fun u46 g47=>ax (qh (dJ a n c b m d q lim) Inv) mz [(.slice a n c),(.slice b m d),(iA m),(.int .u64 q),(.int .u64 n44),(.int .i64 lim),(.int .i64 (wrap .i64 ((i:Int)+1)))] g47) (xI .u64 (al SS.P .rem 103 (.int .u64 (wrap .u64 (n40+cy))) (.int .u64 1000000000)) fun n48=>xI .u64 (al SS.P .quo 103 (.int .u64 (wrap .u64 (n40+cy))) (.int .u64 1000000000)) fun n49=>xP (ag SS.P 136 (.slice a n c) (iA i)) fun p50=>xU (ai SS.P 103 (.pointer (some p50)) (.int .u64 n48) h) h fun u51 g52=>ax (qh (dJ a n c b m d q lim) Inv) mz [(.slice a n c),(.slice b m d),(iA m),(.int .u64 q),(.int .u64 n49),(.int .i64 lim),(.int .i64 (wrap .i64 ((i:Int)+1)))] g52)) (Q (.int .u64 (wrap .u64 (q - 1))) h))(mz:Nat){i:Nat}{cy:Int}{h:Heap}(hi:Inv mz i cy h):LL SS aJ [1,1,1,1,1,1,1,1,1,0,1,0,0] (dJ a n c b m d q lim i cy) h (KK SS aJ [1,1,1,1,1,1,1,1,1,0,1,0] [] (EE SS aJ Q)):=
 ki (dJ a n c b m d q lim) Inv (fun mz i cy zz h hi=>aj (step mz i cy zz h hi)) mz hi
noncomputable def aW:FD:=bF Tryz.f163 [([1,1,1,1,1,0,0,0],[0,1,6,7,8,9]),([1,1,1,1,1,1,1,0,1,0,0],[0,1,4,6,7,8,9,49,50]),([1,1,1,1,1,1,1,1,1,1,0,1,0,0],[4,5,7,12,74,75])]
abbrev eC (a:OA)(n c:Nat)(b:OA)(m d:Nat)(kk:Int)(e:OA)(en ec:Nat)(r:OA)(rn rc:Nat):LV:=[(.slice a n c),(.slice b m d),(iA m),(.int .u64 kk),(.slice r rn rc),(.slice e en ec)]
abbrev eH (a:OA)(n c:Nat)(b:OA)(m d:Nat)(kk:Int)(g:OA)(gn gc:Nat)(r:OA)(rn rc:Nat)(e:OA)(en ec:Nat)(lim:Int)(i:Nat):LV:=[(.slice a n c),(.slice b m d),(.slice g gn gc),(iA m),(.int .u64 kk),(.slice r rn rc),(.slice e en ec),(.int .i64 lim),(iA i)]
abbrev eB (kk:Int)(g:OA)(gn gc:Nat)(r:OA)(rn rc:Nat)(lim:Int)(i:Nat)(left:Int):LV:=[(.slice g gn gc),(.slice r rn rc),(.int .u64 kk),(.int .u64 left),(.int .i64 lim),(iA i)]
theorem zw (a:OA)(n c:Nat)(b:OA)(m d:Nat)(h:Heap)(Q:VH)(hx:FW SS 160 [(.slice a n c),(.slice b m d)] h fun v1 h2=>yI .i64 v1 fun n3=>au (decide ((n3:Int) < 0)) (Q (.tuple ⟨[nA,(.slice a n c)]⟩) h2) (xP (ag SS.P 136 (.slice b m d) (.int .i64 (wrap .i64 ((m:Int) - 1)))) fun p4=>xI .u64 (ah SS.P 103 h2 (.pointer (some p4))) fun n5=>xI .u64 (al SS.P .quo 103 (.int .u64 1000000000) (.int .u64 (wrap .u64 (n5+1)))) fun n6=>FW SS 175 [(.slice a n c),(.int .u64 n6)] h2 fun v7 h8=>yL v7 fun a9 n10 c11=>FW SS 175 [(.slice b m d),(.int .u64 n6)] h8 fun v12 h13=>yL v12 fun a14 n15 c16=>LL SS aW [1,1,1,1,1,0,0,0] (eC a n c b m d n6 a14 n15 c16 a9 n10 c11) h13 (KK SS aW [1,1,1,1,1,0,0] [] (EE SS aW Q)))):FW SS 163 [(.slice a n c),(.slice b m d)] h Q:=bG aW Tryz.func163 (aj hx)
theorem mL (a:OA)(n c:Nat)(b:OA)(m d:Nat)(kk:Int)(e:OA)(en ec:Nat)(Inv:Nat->OA->Nat->Nat->Heap->Prop)(Q:VH)(step: ∀ (mz:Nat) (r:OA) (rn rc:Nat) (zz:Nat->Value) (h:Heap),Inv mz r rn rc h->au (decide (((rn:Int):Int)<=(n:Int))) (xR (ak SS.P 136 1 [(0,(.int .u64 0))]) h fun B17 n18 c19 g20=>xE (ay SS.P 136 136 (.slice r rn rc) (sA (h.next) n18 c19) g20) g20 fun a21 n22 c23 u24 g25=>ax (GP (eC a n c b m d kk e en ec) Inv) mz [(.slice a n c),(.slice b m d),(iA m),(.int .u64 kk),(.slice a21 n22 c23),(.slice e en ec)] g25) (xR (aP SS.P 136 (.int .i64 (wrap .i64 ((rn:Int) - (m:Int)))) (.int .i64 (wrap .i64 ((rn:Int) - (m:Int))))) h fun B26 n27 c28 g29=>LL SS aW [1,1,1,1,1,1,1,0,1,0,0] (eH a n c b m d kk (some ⟨h.next,0,none⟩) n27 c28 r rn rc e en ec (n27:Int) 0) g29 (KK SS aW [1,1,1,1,1,1,1,0,1,0] [] (EE SS aW Q))))(mz:Nat){r:OA}{rn rc:Nat}{h:Heap}(hi:Inv mz r rn rc h):LL SS aW [1,1,1,1,1,0,0,0] (eC a n c b m d kk e en ec r rn rc) h (KK SS aW [1,1,1,1,1,0,0] [] (EE SS aW Q)):=
 Cv (eC a n c b m d kk e en ec) Inv (fun mz r rn rc zz h hi=>aj (step mz r rn rc zz h hi)) mz hi
theorem nj (a:OA)(n c:Nat)(b:OA)(m d:Nat)(kk:Int)(g:OA)(gn gc:Nat)(r:OA)(rn rc:Nat)(e:OA)(en ec:Nat)(lim:Int)(Inv:Nat->Nat->Heap->Prop)(Q:VH)(step: ∀ (mz:Nat) (i:Nat) (zz:Nat->Value) (h:Heap),Inv mz i h->au (decide (((i:Int):Int) < lim)) (xL (aH SS.P 136 (.slice r rn rc) (some (.int .i64 (wrap .i64 (wrap .i64 ((gn:Int) - 1) - (i:Int))))) (some (.int .i64 (wrap .i64 (wrap .i64 (wrap .i64 (wrap .i64 ((gn:Int) - 1) - (i:Int))+(m:Int))+1)))) none h) fun a30 n31 c32=>FW SS 176 [(.slice a30 n31 c32),(.slice e en ec)] h fun v33 h34=>yI .u64 v33 fun n35=>xP (ag SS.P 136 (.slice g gn gc) (.int .i64 (wrap .i64 (wrap .i64 ((gn:Int) - 1) - (i:Int))))) fun p36=>xU (ai SS.P 103 (.pointer (some p36)) (.int .u64 n35) h34) h34 fun u37 g38=>ax (fA (eH a n c b m d kk g gn gc r rn rc e en ec lim) Inv) mz [(.slice a n c),(.slice b m d),(.slice g gn gc),(iA m),(.int .u64 kk),(.slice r rn rc),(.slice e en ec),(.int .i64 lim),(.int .i64 (wrap .i64 ((i:Int)+1)))] g38) (FW SS 142 [(.slice r rn rc)] h fun v39 h40=>yL v39 fun a41 n42 c43=>LL SS aW [1,1,1,1,1,1,1,1,1,1,0,1,0,0] (eB kk g gn gc a41 n42 c43 (n42:Int) 0 0) h40 (KK SS aW [1,1,1,1,1,1,1,1,1,1,0,1,0] [] (EE SS aW Q))))(mz:Nat){i:Nat}{h:Heap}(hi:Inv mz i h):LL SS aW [1,1,1,1,1,1,1,0,1,0,0] (eH a n c b m d kk g gn gc r rn rc e en ec lim i) h (KK SS aW [1,1,1,1,1,1,1,0,1,0] [] (EE SS aW Q)):=
 bH (eH a n c b m d kk g gn gc r rn rc e en ec lim) Inv (fun mz i zz h hi=>aj (step mz i zz h hi)) mz hi
theorem nq (a:OA)(n c:Nat)(b:OA)(m d:Nat)(kk:Int)(g:OA)(gn gc:Nat)(r:OA)(rn rc:Nat)(lim:Int)(Inv:Nat->Nat->Int->Heap->Prop)(Q:VH)(step: ∀ (mz:Nat) (i:Nat) (left:Int) (zz:Nat->Value) (h:Heap),Inv mz i left h->au (decide (((i:Int):Int) < lim)) (xP (ag SS.P 136 (.slice r rn rc) (.int .i64 (wrap .i64 (wrap .i64 ((rn:Int) - 1) - (i:Int))))) fun p44=>xI .u64 (ah SS.P 103 h (.pointer (some p44))) fun n45=>xI .u64 (al SS.P .quo 103 (.int .u64 (wrap .u64 (wrap .u64 (left*1000000000)+n45))) (.int .u64 kk)) fun n46=>xI .u64 (al SS.P .rem 103 (.int .u64 (wrap .u64 (wrap .u64 (left*1000000000)+n45))) (.int .u64 kk)) fun n47=>xP (ag SS.P 136 (.slice r rn rc) (.int .i64 (wrap .i64 (wrap .i64 ((rn:Int) - 1) - (i:Int))))) fun p48=>xU (ai SS.P 103 (.pointer (some p48)) (.int .u64 n46) (room h 11)) (room h 11) fun u49 g50=>ax (qh (eB kk g gn gc r rn rc lim) Inv) mz [(.slice g gn gc),(.slice r rn rc),(.int .u64 kk),(.int .u64 n47),(.int .i64 lim),(.int .i64 (wrap .i64 ((i:Int)+1)))] g50) (FW SS 142 [(.slice g gn gc)] h fun v51 h52=>yL v51 fun a53 n54 c55=>FW SS 142 [(.slice r rn rc)] h52 fun v56 h57=>yL v56 fun a58 n59 c60=>Q (.tuple ⟨[(.slice a53 n54 c55),(.slice a58 n59 c60)]⟩) h57))(mz:Nat){i:Nat}{left:Int}{h:Heap}(hi:Inv mz i left h):LL SS aW [1,1,1,1,1,1,1,1,1,1,0,1,0,0] (eB kk g gn gc r rn rc lim i left) h (KK SS aW [1,1,1,1,1,1,1,1,1,1,0,1,0] [] (EE SS aW Q)):=
 ki (eB kk g gn gc r rn rc lim) Inv (fun mz i left zz h hi=>aj (step mz i left zz h hi)) mz hi
end Go.Proofs.YtoabjjimjldcfaaGreatDoor
end
section
namespace Go.Num
theorem subL_snoc (B q:Nat)(u v:List Nat): ∀ k i b c,subL B q u v i (k+1) b c =
    ((subL B q u v i k b c).1++[(oL B q (u.getD (i+k) 0) (v.getD (i+k) 0) (subL B q u v i k b c).2.1 (subL B q u v i k b c).2.2).1],
     (oL B q (u.getD (i+k) 0) (v.getD (i+k) 0) (subL B q u v i k b c).2.1 (subL B q u v i k b c).2.2).2.1,
     (oL B q (u.getD (i+k) 0) (v.getD (i+k) 0) (subL B q u v i k b c).2.1 (subL B q u v i k b c).2.2).2.2)
  | 0,i,b,c=>rfl
  | k+1,i,b,c=>by
    have ih:=subL_snoc B q u v k (i+1) (oL B q (u.getD i 0) (v.getD i 0) b c).2.1 (oL B q (u.getD i 0) (v.getD i 0) b c).2.2;rw [show i+1+k=i+(k+1) by omega] at ih;show (_::(subL B q u v (i+1) (k+1) _ _).1,(subL B q u v (i+1) (k+1) _ _).2)=_;rw [ih];rfl
theorem subL_borrow {B q:Nat}(hB:1 < B){u v:List Nat}(hu: ∀ d∈u,d < B)(k:Nat):(subL B q u v 0 k 0 0).2.1<=1:=(zA hB (v:=v) hu k 0 0 0 (by omega)).2
theorem subL_carry_lt {B q:Nat}(hB:1 < B)(hq:q < B){u v:List Nat}(hv: ∀ d∈v,d < B): ∀ k,(subL B q u v 0 k 0 0).2.2 < B
  | 0=>by simp [subL]; omega
  | k+1=>by
    rw [subL_snoc];have ih:=subL_carry_lt hB hq (u:=u) hv k;have h2:=getD_lt (by omega) hv (0+k);show (q*v.getD (0+k) 0+(subL B q u v 0 k 0 0).2.2) / B < B;refine div_lt_of_lt_mul ?_;have h3:q*v.getD (0+k) 0<=(B - 1)*(B - 1):=mul_le_mul (by omega) (by omega);have h4:(B - 1)*(B - 1)+(B - 1)=(B - 1)*B:=by rw [<-mul_succ]; congr 1; omega
    have h5:(B - 1)*B+B=B*B:=by rw [<-succ_mul]; congr 1; omega
    omega
theorem set_front {α:Type}(x y:List α){i:Nat}(hx:x.length=i)(hi:i < y.length)(d:α):(x++y.drop i).set i d=(x++[d])++y.drop (i+1):=by
  rw [List.set_append,if_neg (by omega),hx,sub_self,drop_eq_getElem_cons hi,List.set_cons_zero,append_assoc]; rfl
theorem getD_front (x y:List Nat){i:Nat}(hx:x.length=i):(x++y.drop i).getD i 0=y.getD i 0:=by
  rw [gD,List.getElem?_append_right (by omega),hx,sub_self,List.getElem?_drop,add_zero,gD]
end Go.Num
end
section
set_option linter.unusedVariables false
set_option maxRecDepth 100000
namespace Go.Proofs.YtoabjjimjldcfaaGreatDoor
open Go Go.Ab
section
def bh (cs:List Value)(off:Nat)(W:List Nat):List Value:=cs.take off++W.map uv++cs.drop (off+W.length)
structure OkX (h:Heap)(k:Nat)(h':Heap):Prop where
 wf:Wf h'
 keep: ∀ j B,j≠k->h.get j=some B->h'.get j=some B
 nx:h.next<=h'.next
theorem OkX.refl {h:Heap}{k:Nat}(w:Wf h):OkX h k h:=⟨w,fun _ _ _ h=>h,le_refl _⟩
theorem OkX.room {h h':Heap}{k:Nat}(o:OkX h k h')(n:Nat):OkX h k (room h' n):=⟨fun j B hj=>lt_of_lt_of_le (o.wf j B hj) (Nat.le_add_right _ _),o.keep,le_trans o.nx (Nat.le_add_right _ _)⟩
theorem OkX.set {h h':Heap}{k:Nat}(o:OkX h k h')(hk:k < h'.next)(B:Blk):OkX h k (h'.set k B):=by
 refine ⟨fun j C hj=> ?_,fun j C hjk hj=> ?_,o.nx⟩
 ·rw [Heap.get_set] at hj;split at hj
  ·next e=>rw [e]; exact hk
  ·exact o.wf _ _ hj
 ·rw [Heap.get_set,if_neg hjk]; exact o.keep _ _ hjk hj
theorem qK {k off n c:Nat}{i:Int}(h0:0<=i)(h1:i < n):ag SS.P 136 (.slice (some ⟨k,off,none⟩) n c) (.int .i64 i)=some (.pointer (some ⟨k,off+i.toNat,none⟩)):=by
 unfold ag;rw [sT]; dsimp only;rw [uD]; dsimp only;rw [if_pos ⟨h0,h1⟩,mul_one,bC]
section
variable {g:Heap} {k off:Nat} {cs:List Value} {W:List Nat}
theorem ws (hg:g.get k=some (.cells (bh cs off W) 103 1 true))(hl:off+W.length<=cs.length){i:Nat}(hi:i < W.length):ah SS.P 103 g (.pointer (some ⟨k,off+i,none⟩))=some (.int .u64 (W.getD i 0:Nat)):=by
 unfold ah;rw [ET]; dsimp only;rw [hg]; dsimp only;rw [FL];simp only [Bool.false_eq_true,if_false];unfold bh;rw [append_assoc,List.getElem?_append_right (by rw [length_take]; omega),length_take,min_eq_left (by omega),Nat.add_sub_cancel_left,List.getElem?_append_left (by rw [lM]; exact hi),getElem?_map,gE hi,gD,gE hi]; rfl
theorem wh (hg:g.get k=some (.cells (bh cs off W) 103 1 true))(hl:off+W.length<=cs.length){i:Nat}(hi:i < W.length)(d:Nat):ai SS.P 103 (.pointer (some ⟨k,off+i,none⟩)) (.int .u64 (d:Int)) g=some (undef,.set k (.cells (bh cs off (W.set i d)) 103 1 true)):=by
 show (if an SS.P 103=some 1 then (storeAt g k (off+i) [.int .u64 (d:Int)]).map fun u=>(undef,u) else none)=_;rw [if_pos uD];unfold storeAt;rw [hg]; dsimp only;have hlen:(bh cs off W).length=cs.length:=by
  unfold bh;simp only [length_append,length_take,lM,length_drop]; omega
 rw [if_pos ⟨by rw [hlen]; simp; omega,rfl⟩];have e:(bh cs off W).take (off+i)++[Value.int .u64 (d:Int)]++(bh cs off W).drop (off+i+[Value.int .u64 (d:Int)].length)=bh cs off (W.set i d):=by
  have ht:(cs.take off).length=off:=by rw [length_take]; omega
  have e0:(bh cs off W).take (off+i)++[Value.int .u64 (d:Int)]++(bh cs off W).drop (off+i+[Value.int .u64 (d:Int)].length)=(bh cs off W).set (off+i) (.int .u64 (d:Int)):=by
   rw [List.set_eq_take_append_cons_drop,if_pos (by rw [hlen]; omega),append_assoc]; rfl
  rw [e0];unfold bh;rw [append_assoc,List.set_append,if_neg (by omega),ht,Nat.add_sub_cancel_left,List.set_append,if_pos (by rw [lM]; exact hi),length_set,append_assoc,List.map_set]; rfl
 rw [e]; rfl
end
end
theorem uT {a:Nat}:al SS.P .rem 103 (.int .u64 (a:Int)) (.int .u64 1000000000)=some (.int .u64 ((a % BB:Nat):Int)):=by
 have:=dy (P:=SS.P) (t:=103) (k:= .u64) (a:=(a:Int)) (b:=BB) (by omega) (by decide);rw [<-Int.natCast_emod] at this; exact this
theorem yz {a:Nat}(h:a < 18446744073709551616):al SS.P .quo 103 (.int .u64 (a:Int)) (.int .u64 1000000000)=some (.int .u64 ((a / BB:Nat):Int)):=by
 have:=jT (P:=SS.P) (t:=103) (a:=(a:Int)) (b:=BB) (by omega) (by omega) (by decide);rw [<-Int.natCast_ediv] at this; exact this
theorem NF {a b:Nat}(hb:0 < b):al SS.P .rem 103 (.int .u64 (a:Int)) (.int .u64 (b:Int))=some (.int .u64 ((a % b:Nat):Int)):=by
 have:=dy (P:=SS.P) (t:=103) (k:= .u64) (a:=(a:Int)) (b:=b) (by omega) hb;rw [<-Int.natCast_emod] at this; exact this
theorem K6 {a b:Nat}(h:a < 18446744073709551616)(hb:0 < b):al SS.P .quo 103 (.int .u64 (a:Int)) (.int .u64 (b:Int))=some (.int .u64 ((a / b:Nat):Int)):=by
 have:=jT (P:=SS.P) (t:=103) (a:=(a:Int)) (b:=b) (by omega) (by omega) hb;rw [<-Int.natCast_ediv] at this; exact this
theorem wU {n:Int}{m:Nat}(h:n=(m:Int))(h2:m < 18446744073709551616):wrap .u64 n=(m:Int):=by rw [h]; exact cJ (by omega) (by omega)
structure DigIn (h:Heap)(k off c m:Nat)(cs:List Value)(U V:List Nat)(b:Option Addr)(d:Nat):Prop where
 w:Wf h
 get:h.get k=some (.cells (bh cs off U) 103 1 true)
 fit:off+U.length<=cs.length
 ul:U.length=m+1
 vl:V.length=m
 mp:0 < m
 mle:m<=10000
 ult: ∀ x∈U,x < BB
 vlt: ∀ x∈V,x < BB
 v1:0 < V.getD (m - 1) 0
 lt:Num.bv BB U < BB*Num.bv BB V
 rd: ∀ g,OkX h k g->Rd g 103 (.slice b m d) (V.map uv)
def As (h:Heap)(k off:Nat)(cs:List Value)(m:Nat)(U V:List Nat):VH:=fun v h'=> ∃ W:List Nat,W.length=m+1/\(∀ x∈W,x < BB)/\Num.bv BB W=Num.bv BB U % Num.bv BB V/\v=uv (Num.bv BB U / Num.bv BB V)/\h'.get k=some (.cells (bh cs off W) 103 1 true)/\OkX h k h'
theorem Ct {h:Heap}{k off c m:Nat}{cs:List Value}{U V:List Nat}{b:Option Addr}{d:Nat}(D:DigIn h k off c m cs U V b d):
  FW SS 176 [.slice (some ⟨k,off,none⟩) (m+1) c,.slice b m d] h (As h k off cs m U V):=by
 have hBv:BB=1000000000:=rfl;have hul:=D.ul;have hvl:=D.vl;have hmp:=D.mp;have hmle:=D.mle;have hB0:0 < BB:=by decide
 have ug: ∀ i,U.getD i 0 < BB:=fun i=>Num.getD_lt hB0 D.ult i;have vg: ∀ i,V.getD i 0 < BB:=fun i=>Num.getD_lt hB0 D.vlt i;have hw1:wrap .i64 ((m:Int) - 1)=((m - 1:Nat):Int):=by rw [am (by omega) (by omega)]; omega
 have hw2:1 < m->wrap .i64 ((m:Int) - 2)=((m - 2:Nat):Int):=fun hm=>by rw [am (by omega) (by omega)]; omega
 have hwm:wrap .i64 ((m:Int)+1)=(m:Int)+1:=am (by omega) (by omega);have wi: ∀ i:Nat,i<=m->wrap .i64 ((i:Int)+1)=((i+1:Nat):Int):=fun i hi=>by rw [am (by omega) (by omega)]; omega
 have L3:=fun (qn:Nat) (W:List Nat) (hq0:0 < qn) (hqB:qn < BB) (hwl:W.length=m+1) (hwlt: ∀ x∈W,x < BB) (hq:qn - 1=Num.bv BB U / Num.bv BB V) (hres:Num.bv BB (Num.eachF (Num.plusF BB) W V 0 (m+1) 0)=Num.bv BB U % Num.bv BB V)=>
  oF (some ⟨k,off,none⟩) (m+1) c b m d (qn:Int) ((m:Int)+1) (fun mz i cy g=>i<=m+1/\mz=m+1 - i/\cy=(Num.cr (Num.plusF BB) W V 0 0 i:Nat)/\g.get k=some (.cells (bh cs off (Num.eachF (Num.plusF BB) W V 0 i 0++W.drop i)) 103 1 true)/\OkX h k g) (As h k off cs m U V) (by
  intro mz i cy; intros; rename_i g hi;obtain ⟨h1,h2,rfl,hg,ok⟩:=hi;have hel:(Num.eachF (Num.plusF BB) W V 0 i 0).length=i:=Num.eachF_len _ _ _ _ _ _;have hsn:=Num.eachF_snoc (Num.plusF BB) W V i 0 0;rw [zero_add] at hsn;have hcr1:Num.cr (Num.plusF BB) W V 0 0 (i+1)=(Num.plusF BB (W.getD i 0) (V.getD i 0) (Num.cr (Num.plusF BB) W V 0 0 i)).2:=by
   show (Num.plusF BB (W.getD (0+i) 0) (V.getD (0+i) 0) _).2=_;rw [zero_add]
  have wg:W.getD i 0 < BB:=Num.getD_lt hB0 hwlt i;have hcb:Num.cr (Num.plusF BB) W V 0 0 i<=1:=by
   clear hcr1 hsn hel hg h2 h1
   induction i with
   | zero=>exact zero_le _
   | succ j ih=>
    have a1:=Num.getD_lt (b:=BB) hB0 hwlt (0+j);have a2:=vg (0+j);have a3:=ih (Num.getD_lt hB0 hwlt j);show (W.getD (0+j) 0+V.getD (0+j) 0+Num.cr (Num.plusF BB) W V 0 0 j) / BB<=1;have:(W.getD (0+j) 0+V.getD (0+j) 0+Num.cr (Num.plusF BB) W V 0 0 j) / BB < 2:=div_lt_of_lt_mul (by omega);omega
  have hvi:=vg i;have hlen:(Num.eachF (Num.plusF BB) W V 0 i 0++W.drop i).length=m+1:=by rw [length_append,hel,length_drop]; omega
  have hfit:=D.fit;refine ae (fun h5=> ?_) (fun h5=> ?_)
  ·have h5:=dT h5;have hl:=ws hg (by rw [hlen]; omega) (i:=i) (by rw [hlen]; omega);rw [Num.getD_front _ _ hel] at hl;have hkn:=ok.wf _ _ hg;have step: ∀ (s:Nat),s=W.getD i 0+V.getD i 0+Num.cr (Num.plusF BB) W V 0 0 i->
     ai SS.P 103 (.pointer (some ⟨k,off+i,none⟩)) (.int .u64 ((s % BB:Nat):Int)) g=some (undef,.set k (.cells (bh cs off (Num.eachF (Num.plusF BB) W V 0 (i+1) 0++W.drop (i+1))) 103 1 true)):=fun s hs=>by
    rw [wh hg (by rw [hlen]; omega) (by rw [hlen]; omega),Num.set_front _ _ hel (by omega),hsn,hs]; rfl
   refine ⟨_,qK (by omega) (by omega),_,by rw [toNat_natCast]; exact hl,?_⟩;have e1:wrap .u64 (((W.getD i 0:Nat):Int)+((Num.cr (Num.plusF BB) W V 0 0 i:Nat):Int))=((W.getD i 0+Num.cr (Num.plusF BB) W V 0 0 i:Nat):Int):=wU (by omega) (by omega);dsimp only;rw [e1,wi i (by omega)];refine ae (fun h6=> ?_) (fun h6=> ?_)
   ·have h6:=dT h6;obtain ⟨p,g2,g3⟩:=xJ (D.rd g ok) (i:=(i:Int)) (by omega) (by omega);rw [toNat_natCast] at g3;refine ⟨p,g2,_,g3,?_⟩;have e2:wrap .u64 (((W.getD i 0+Num.cr (Num.plusF BB) W V 0 0 i:Nat):Int)+((V.getD i 0:Nat):Int))=((W.getD i 0+V.getD i 0+Num.cr (Num.plusF BB) W V 0 0 i:Nat):Int):=wU (by omega) (by omega);dsimp only;rw [e2];refine ⟨_,uT,_,yz (by omega),_,qK (by omega) (by omega),_,by rw [toNat_natCast]; exact step _ rfl,?_⟩;refine gO (mz - 1) (by omega) ⟨by omega,by omega,by rw [hcr1]; rfl,?_,ok.set hkn _⟩;show (g.set k _).get k=_;rw [Heap.get_set,if_pos rfl]
   ·have h6:=dF h6;have hv0:V.getD i 0=0:=by rw [gD,getElem?_eq_none (by omega)]; rfl
    refine ⟨_,uT,_,yz (by omega),_,qK (by omega) (by omega),_,by rw [toNat_natCast]; exact step _ (by omega),?_⟩;refine gO (mz - 1) (by omega) ⟨by omega,by omega,?_,?_,ok.set hkn _⟩
    ·rw [hcr1];show _=(((W.getD i 0+V.getD i 0+Num.cr (Num.plusF BB) W V 0 0 i) / BB:Nat):Int);rw [hv0,add_zero]
    ·show (g.set k _).get k=_;rw [Heap.get_set,if_pos rfl]
  ·have h5:=dF h5;obtain rfl:i=m+1:=by omega
   have e3:wrap .u64 ((qn:Int) - 1)=((qn - 1:Nat):Int):=wU (by omega) (by omega);rw [e3];rw [drop_of_length_le (by omega),List.append_nil] at hg;exact ⟨_,hel,Num.eachF_lt (fun p q c=>mod_lt _ hB0) _ _ _ _ _,hres,by rw [hq]; rfl,hg,ok⟩)
 have L2:=fun (qn:Nat) (hqB:qn < BB) (hhi:Num.bv BB U < (qn+1)*Num.bv BB V) (hlo:qn*Num.bv BB V < Num.bv BB U+Num.bv BB V)=>
  oj (some ⟨k,off,none⟩) (m+1) c b m d (qn:Int) ((m:Int)+1) (fun mz i bo cy g=>i<=m+1/\mz=m+1 - i/\bo=((Num.subL BB qn U V 0 i 0 0).2.1:Nat)/\cy=((Num.subL BB qn U V 0 i 0 0).2.2:Nat)/\g.get k=some (.cells (bh cs off ((Num.subL BB qn U V 0 i 0 0).1++U.drop i)) 103 1 true)/\OkX h k g) (As h k off cs m U V) (by
  intro mz i bo cy; intros; rename_i g hi;obtain ⟨h1,h2,rfl,rfl,hg,ok⟩:=hi;have hel:(Num.subL BB qn U V 0 i 0 0).1.length=i:=Num.subL_len _ _ _ _ _ _ _ _;have hsn:=Num.subL_snoc BB qn U V i 0 0 0;rw [zero_add] at hsn;have hbo:=Num.subL_borrow (q:=qn) (v:=V) dx D.ult i;have hcy:=Num.subL_carry_lt dx hqB (u:=U) D.vlt i;generalize hst:Num.subL BB qn U V 0 i 0 0=st at *;obtain ⟨Wl,bo,cy⟩:=st;dsimp only at hel hg hbo hcy hsn ⊢;have hlen:(Wl++U.drop i).length=m+1:=by rw [length_append,hel,length_drop]; omega
  have hfit:=D.fit;have hui:=ug i;have hvi:=vg i;have hqv:qn*V.getD i 0<=999999999*999999999:=mul_le_mul (by omega) (by omega);refine ae (fun h5=> ?_) (fun h5=> ?_)
  ·have h5:=dT h5;have hl:=ws hg (by rw [hlen]; omega) (i:=i) (by rw [hlen]; omega);rw [Num.getD_front _ _ hel] at hl;have hkn:=ok.wf _ _ hg;have step: ∀ (s:Nat),s=qn*V.getD i 0+cy->
     ai SS.P 103 (.pointer (some ⟨k,off+i,none⟩)) (.int .u64 (((U.getD i 0+BB - s % BB - bo) % BB:Nat):Int)) g=some (undef,.set k (.cells (bh cs off ((Num.subL BB qn U V 0 (i+1) 0 0).1++U.drop (i+1))) 103 1 true)):=fun s hs=>by
    rw [wh hg (by rw [hlen]; omega) (by rw [hlen]; omega),Num.set_front _ _ hel (by omega),hsn,hs]; rfl
   have rest: ∀ (s:Nat),s=qn*V.getD i 0+cy-> ∀ (p21:Addr),p21=⟨k,off+i,none⟩->
     ∃ n23:Int,al SS.P .rem 103 (.int .u64 (s:Int)) (.int .u64 1000000000)=some (.int .u64 n23)/\n23=((s % BB:Nat):Int):=fun s _ _ _=>⟨_,uT,rfl⟩
   rw [wi i (by omega)];have fin: ∀ (s:Nat),s=qn*V.getD i 0+cy->((1 - (U.getD i 0+BB - s % BB - bo) / BB:Nat):Int)=((Num.subL BB qn U V 0 (i+1) 0 0).2.1:Nat)/\((s / BB:Nat):Int)=((Num.subL BB qn U V 0 (i+1) 0 0).2.2:Nat):=fun s hs=>by
    rw [hsn,hs]; exact ⟨rfl,rfl⟩
   have ed: ∀ s:Nat,wrap .u64 (wrap .u64 (wrap .u64 (((U.getD i 0:Nat):Int)+1000000000) - ((s % BB:Nat):Int)) - (bo:Int))=((U.getD i 0+BB - s % BB - bo:Nat):Int):=fun s=>by
    have hm:=mod_lt s hB0;generalize s % BB=z at hm;have a1:wrap .u64 (((U.getD i 0:Nat):Int)+1000000000)=((U.getD i 0+BB:Nat):Int):=wU (by omega) (by omega);have a2:wrap .u64 (((U.getD i 0+BB:Nat):Int) - (z:Int))=((U.getD i 0+BB - z:Nat):Int):=wU (by omega) (by omega);have a3:wrap .u64 (((U.getD i 0+BB - z:Nat):Int) - (bo:Int))=((U.getD i 0+BB - z - bo:Nat):Int):=wU (by omega) (by omega);rw [a1,a2,a3]
   have e1b: ∀ s:Nat,wrap .u64 (1 - (((U.getD i 0+BB - s % BB - bo) / BB:Nat):Int))=((1 - (U.getD i 0+BB - s % BB - bo) / BB:Nat):Int):=fun s=>by
    have h9:(U.getD i 0+BB - s % BB - bo) / BB < 2:=div_lt_of_lt_mul (by omega);generalize (U.getD i 0+BB - s % BB - bo) / BB=z at h9 ⊢;exact wU (by omega) (by omega)
   refine ae (fun h6=> ?_) (fun h6=> ?_)
   ·have h6:=dT h6;obtain ⟨p,g2,g3⟩:=xJ (D.rd g ok) (i:=(i:Int)) (by omega) (by omega);rw [toNat_natCast] at g3;refine ⟨p,g2,_,g3,_,qK (by omega) (by omega),_,by rw [toNat_natCast]; exact hl,?_⟩;have e2:wrap .u64 ((cy:Int)+wrap .u64 ((qn:Int)*((V.getD i 0:Nat):Int)))=((qn*V.getD i 0+cy:Nat):Int):=by
     have e0:wrap .u64 ((qn:Int)*((V.getD i 0:Nat):Int))=((qn*V.getD i 0:Nat):Int):=wU (by rw [Int.natCast_mul]) (by omega);rw [e0];exact wU (by omega) (by omega)
    rw [e2];refine ⟨_,uT,?_⟩;dsimp only;rw [ed];have hm:=mod_lt (qn*V.getD i 0+cy) hB0;refine ⟨_,uT,_,yz (by omega),_,yz (by omega),_,qK (by omega) (by omega),_,by rw [toNat_natCast]; exact step _ rfl,?_⟩;rw [e1b];refine uX (mz - 1) (by omega) ⟨by omega,by omega,(fin _ rfl).1,(fin _ rfl).2,?_,ok.set hkn _⟩;show (g.set k _).get k=_;rw [Heap.get_set,if_pos rfl]
   ·have h6:=dF h6;have hv0:V.getD i 0=0:=by rw [gD,getElem?_eq_none (by omega)]; rfl
    have hs0:cy=qn*V.getD i 0+cy:=by rw [hv0,mul_zero,zero_add]
    refine ⟨_,qK (by omega) (by omega),_,by rw [toNat_natCast]; exact hl,_,uT,?_⟩;dsimp only;rw [ed];have hm:=mod_lt cy hB0;refine ⟨_,uT,_,yz (by omega),_,yz (by omega),_,qK (by omega) (by omega),_,by rw [toNat_natCast]; exact step _ hs0,?_⟩;rw [e1b];refine uX (mz - 1) (by omega) ⟨by omega,by omega,(fin _ hs0).1,(fin _ hs0).2,?_,ok.set hkn _⟩;show (g.set k _).get k=_;rw [Heap.get_set,if_pos rfl]
  ·have h5:=dF h5;obtain rfl:i=m+1:=by omega
   obtain ⟨d0,d1,d2⟩:=Num.digit_done dx D.ult D.vlt D.ul D.vl hqB hhi hlo;have hwlt:=Num.subL_lt (q:=qn) dx U V (m+1) 0 0 0;rw [hst] at d0 d1 d2 hwlt;dsimp only at d0 d1 d2 hwlt;rw [drop_of_length_le (by omega),List.append_nil] at hg;refine ae (fun h6=> ?_) (fun h6=> ?_)
   ·have h6:(bo:Int)=0:=by simpa using h6
    obtain ⟨e1,e2⟩:=d1 (by omega);exact ⟨Wl,hel,hwlt,e2,by rw [e1]; rfl,hg,ok⟩
   ·have h6: ¬ (bo:Int)=0:=by simpa using h6
    obtain ⟨e0,e1,e2⟩:=d2 (by omega);rw [hwm];exact L3 qn Wl e0 hqB hel hwlt e1 e2 (m+1) (i:=0) ⟨by omega,by omega,rfl,by simpa [Num.eachF] using hg,ok⟩)
 have hv1:=D.v1;have htop:U.getD m 0*BB+U.getD (m - 1) 0 < 1000000000000000000:=by
  have a1:=ug m;have a2:=ug (m - 1);have a3:U.getD m 0*BB=1000000000*U.getD m 0:=by rw [hBv,mul_comm]
  omega
 have L1:=oy (some ⟨k,off,none⟩) (m+1) c b m d (fun mz q rest g=> ∃ qn rn:Nat,q=(qn:Int)/\rest=(rn:Int)/\mz=qn/\Num.Trial BB m U V qn rn/\g.get k=some (.cells (bh cs off U) 103 1 true)/\OkX h k g) (As h k off cs m U V) (by
  intro mz q rest; intros; rename_i g hi;obtain ⟨qn,rn,rfl,rfl,rfl,T,hg,ok⟩:=hi;have hT:=T.eq;have hfit:=D.fit;have hrl:rn < 1000000000000000000:=Nat.lt_of_le_of_lt (by rw [<-hT]; omega) htop;have hql:mz < 1000000000000000000:=by
   refine Nat.lt_of_le_of_lt ?_ htop;rw [<-hT];have:=Nat.le_mul_of_pos_right mz hv1;omega
  have ok':=ok.room 28;have hg':(room g 28).get k=some (.cells (bh cs off U) 103 1 true):=hg;have hv1B:=vg (m - 1);have hj:((m - 1:Nat):Int).toNat=m - 1:=by omega
  obtain ⟨p1,g2,g3⟩:=xJ (D.rd _ ok') (i:=((m - 1:Nat):Int)) (by omega) (by omega);rw [hj] at g3;have er:wrap .u64 ((rn:Int)+((V.getD (m - 1) 0:Nat):Int))=((rn+V.getD (m - 1) 0:Nat):Int):=wU (by omega) (by omega);have leave: ∀ (qn':Nat),qn' < BB->Num.bv BB U < (qn'+1)*Num.bv BB V->qn'*Num.bv BB V < Num.bv BB U+Num.bv BB V->_:=fun qn' h1 h2 h3=>L2 qn' h1 h2 h3;have low:Num.bv BB U < mz*Num.bv BB V->0 < mz/\Num.Trial BB m U V (mz - 1) (rn+V.getD (m - 1) 0):=fun hl=>⟨by
   rcases eq_zero_or_pos mz with e | e
   ·subst e; rw [zero_mul] at hl; omega
   ·exact e,T.lower hl⟩
  have broke:mz - 1 < BB->BB<=rn+V.getD (m - 1) 0->Num.Trial BB m U V (mz - 1) (rn+V.getD (m - 1) 0)->(mz - 1)*Num.bv BB V < Num.bv BB U+Num.bv BB V:=fun h1 h2 T'=>
   T'.last dx D.ul D.vl hmp D.vlt hv1 h1 fun _=>Num.trial_broke h1 (vg (m - 2)) h2
  have body:Num.bv BB U < mz*Num.bv BB V->True:=fun _=>trivial;rw [hw1];refine ae (fun h5=> ?_) (fun h5=> ?_)
  ·have h5:=dT h5;obtain ⟨hq0,T'⟩:=low (Num.Trial.great D.lt (by omega));have eq1:wrap .u64 ((mz:Int) - 1)=((mz - 1:Nat):Int):=wU (by omega) (by omega);rw [eq1];refine ⟨p1,g2,_,g3,?_⟩;dsimp only;rw [er];generalize hzz:decide (((mz - 1:Nat):Int) < 1000000000)=bz;refine ae (fun h6=>ae (fun h7=> ?_) (fun h7=> ?_)) (fun h6=> ?_)
   ·subst hzz;have h6:=dT h6;have h7:=dT h7;rw [hwm];exact L2 (mz - 1) (by omega) T'.hi (broke (by omega) (by omega) T') (m+1) (i:=0) ⟨by omega,by omega,rfl,rfl,by simpa [Num.subL] using hg',ok'⟩
   ·exact gO (mz - 1) (by omega) ⟨mz - 1,_,rfl,rfl,rfl,T',hg',ok'⟩
   ·exact gO (mz - 1) (by omega) ⟨mz - 1,_,rfl,rfl,rfl,T',hg',ok'⟩
  ·have h5:=dF h5;have hqB:mz < BB:=by omega
   have done:(1 < m->mz*V.getD (m - 2) 0<=rn*BB+U.getD (m - 2) 0)->mz*Num.bv BB V < Num.bv BB U+Num.bv BB V:=fun hs=>T.last dx D.ul D.vl hmp D.vlt hv1 hqB hs;refine ae (fun h6=> ?_) (fun h6=> ?_)
   ·have h6:=dT h6;have hm1:1 < m:=by omega
    rw [hw2 hm1];generalize hzz:decide ((rn:Int) < 1000000000)=bz;refine ae (fun h7=> ?_) (fun h7=> ?_)
    ·subst hzz;have h7:=dT h7;have hj2:((m - 2:Nat):Int).toNat=m - 2:=by omega
     obtain ⟨p2,g4,g5⟩:=xJ (D.rd _ ok') (i:=((m - 2:Nat):Int)) (by omega) (by omega);rw [hj2] at g5;have hl:=ws hg' hfit (i:=m - 2) (by omega);refine ⟨p2,g4,_,g5,_,qK (by omega) (by omega),_,by rw [hj2]; exact hl,?_⟩;have hv2:=vg (m - 2);have hu2:=ug (m - 2);have hqv:mz*V.getD (m - 2) 0<=999999999*999999999:=mul_le_mul (by omega) (by omega);have ea:wrap .u64 ((mz:Int)*((V.getD (m - 2) 0:Nat):Int))=((mz*V.getD (m - 2) 0:Nat):Int):=wU (by rw [Int.natCast_mul]) (by omega);obtain ⟨RB,hRB⟩: ∃ x,x=rn*BB:=⟨_,rfl⟩
     have hRB':RB=1000000000*rn:=by rw [hRB,hBv,mul_comm]
     obtain ⟨MV,hMV⟩: ∃ x,x=mz*V.getD (m - 2) 0:=⟨_,rfl⟩
     rw [<-hMV] at hqv ea;have eb:wrap .u64 ((rn:Int)*1000000000)=(RB:Int):=wU (by omega) (by omega);have ec:wrap .u64 ((RB:Int)+((U.getD (m - 2) 0:Nat):Int))=((RB+U.getD (m - 2) 0:Nat):Int):=wU (by omega) (by omega);dsimp only;rw [ea,eb,ec];generalize hyy:decide ((MV:Int) > ((RB+U.getD (m - 2) 0:Nat):Int))=by_;refine ae (fun h8=> ?_) (fun h8=> ?_)
     ·subst hyy;have h8:=dT h8;obtain ⟨hq0,T'⟩:=low (T.second D.ul D.vl hm1 D.ult (by rw [<-hRB,<-hMV]; omega));have eq1:wrap .u64 ((mz:Int) - 1)=((mz - 1:Nat):Int):=wU (by omega) (by omega);rw [eq1];refine ⟨p1,g2,_,g3,?_⟩;dsimp only;rw [er];generalize hxx:decide (((mz - 1:Nat):Int) < 1000000000)=bx;refine ae (fun h9=>ae (fun h10=> ?_) (fun h10=> ?_)) (fun h9=> ?_)
      ·have h9:=dT h9;rw [hwm];exact L2 (mz - 1) (by omega) T'.hi (broke (by omega) (by omega) T') (m+1) (i:=0) ⟨by omega,by omega,rfl,rfl,by simpa [Num.subL] using hg',ok'⟩
      ·exact gO (mz - 1) (by omega) ⟨mz - 1,_,rfl,rfl,rfl,T',hg',ok'⟩
      ·exact gO (mz - 1) (by omega) ⟨mz - 1,_,rfl,rfl,rfl,T',hg',ok'⟩
     ·subst hyy;have h8:=dF h8;rw [hwm];exact L2 mz hqB T.hi (done fun _=>by rw [<-hRB,<-hMV]; omega) (m+1) (i:=0) ⟨by omega,by omega,rfl,rfl,by simpa [Num.subL] using hg',ok'⟩
    ·subst hzz;have h7:=dF h7;rw [hwm];exact L2 mz hqB T.hi (done fun _=>Num.trial_broke hqB (vg (m - 2)) (by omega)) (m+1) (i:=0) ⟨by omega,by omega,rfl,rfl,by simpa [Num.subL] using hg',ok'⟩
   ·have h6:=dF h6;rw [hwm];exact L2 mz hqB T.hi (done fun hm=>by omega) (m+1) (i:=0) ⟨by omega,by omega,rfl,rfl,by simpa [Num.subL] using hg',ok'⟩)
 have ok1:=(OkX.refl (k:=k) D.w).room 12;have ok2:=ok1.room 16;have hfit:=D.fit;have hj:((m - 1:Nat):Int).toNat=m - 1:=by omega
 have hl1:=ws (g:=room h 12) D.get hfit (i:=m) (by omega);have hl2:=ws (g:=room h 12) D.get hfit (i:=m - 1) (by omega);obtain ⟨p1,g2,g3⟩:=xJ (D.rd _ ok2) (i:=((m - 1:Nat):Int)) (by omega) (by omega);rw [hj] at g3;have a1:=ug m;have a2:=ug (m - 1);refine CH _ _ _ _ _ _ h _ ⟨_,qK (by omega) (by omega),_,by rw [toNat_natCast]; exact hl1,?_⟩;rw [hw1];refine ⟨_,qK (by omega) (by omega),_,by rw [hj]; exact hl2,p1,g2,_,g3,?_⟩;obtain ⟨TB,hTB⟩: ∃ x,x=U.getD m 0*BB:=⟨_,rfl⟩
 have hTB':TB=1000000000*U.getD m 0:=by rw [hTB,hBv,mul_comm]
 have ea:wrap .u64 (((U.getD m 0:Nat):Int)*1000000000)=(TB:Int):=wU (by omega) (by omega);have eb:wrap .u64 ((TB:Int)+((U.getD (m - 1) 0:Nat):Int))=((TB+U.getD (m - 1) 0:Nat):Int):=wU (by omega) (by omega);rw [ea,eb];have hstart:=Num.Trial.start dx D.ul D.vl hmp D.ult hv1;rw [<-hTB] at hstart;refine ⟨_,K6 (by omega) hv1,p1,g2,_,g3,_,NF hv1,?_⟩;exact L1 _ ⟨_,_,rfl,rfl,rfl,hstart,D.get,ok2⟩
theorem OwnR.weak {h0 h1 h:Heap}{e:TypeId}{v:Value}{vs:List Value}(hn:h0.next<=h1.next)(o:OwnR h1 h e v vs):OwnR h0 h e v vs:=by
 rcases o with o | ⟨k,cs,h1',h2,h3,h4,h5⟩
 ·exact .inl o
 ·exact .inr ⟨k,cs,h1',le_trans hn h2,h3,h4,h5⟩
theorem OT (k:Int):dc SS.P 103 (.int .u64 k)=some (.cells [.int .u64 k] 103 0 true,iy):=by kernel_rfl
theorem qy {h:Heap}{a:Option Addr}{n c:Nat}{x:List Nat}(ra:Rd h 103 (.slice a n c) (x.map uv))(hx: ∀ d∈x,d < BB)(hlen:x.length<=10000){k:Nat}(hk0:0 < k)(hk:k<=BB)(w:Wf h):
  FW SS 175 [.slice a n c,.int .u64 (k:Int)] h (ew h 103 (bl (Num.bv BB x*k))):=by
 have ok:=(Ok.refl w).push (.cells [.int .u64 (k:Int)] 103 0 true);refine zJ a n c _ h _ ⟨_,OT _,?_⟩;have hp:ah SS.P 103 (h.push (.cells [.int .u64 (k:Int)] 103 0 true)) (.pointer (some ⟨h.next,0,none⟩))=some (.int .u64 (k:Int)):=by
  unfold ah;rw [ET]; dsimp only;rw [Heap.get_push,if_pos rfl]; dsimp only;rw [FL]; rfl
 refine (wS (ra.ok ok) hx hlen hp hk0 hk ok.wf).mono ?_;rintro _ h3 ⟨a4,n5,c6,rfl,o,ok3⟩;exact ⟨a4,n5,c6,rfl,a4,n5,c6,rfl,OwnR.weak (Nat.le_succ _) o,ok.trans ok3⟩
def RowC (h:Heap)(k off n c:Nat)(l:List Nat):Prop:= ∃ cs wr,h.get k=some (.cells cs 103 1 wr)/\n=l.length/\(cs.drop off).take n=l.map uv/\n<=aK c
theorem RowC.rd {h:Heap}{k off n c:Nat}{l:List Nat}(r:RowC h k off n c l):Rd h 103 (.slice (some ⟨k,off,none⟩) n c) (l.map uv):=by
 obtain ⟨cs,wr,h1,rfl,h3,h4⟩:=r;exact .inr ⟨k,off,cs,c,wr,by rw [lM],h1,by rw [lM]; exact h3⟩
theorem RowC.take {h:Heap}{k off n c:Nat}{l:List Nat}(r:RowC h k off n c l){j:Nat}(hj:j<=n):aH SS.P 136 (.slice (some ⟨k,off,none⟩) n c) none (some (.int .i64 (j:Int))) none h=some (.slice (some ⟨k,off,none⟩) j c)/\RowC h k off j c (l.take j):=by
 obtain ⟨cs,wr,h1,rfl,h3,h4⟩:=r;refine ⟨?_,cs,wr,h1,by rw [length_take]; omega,?_,by omega⟩
 ·unfold aH;dsimp only;rw [sT];dsimp only [bI];rw [uD,h1];dsimp only;have e2:((j:Int) - ((0:Nat):Int)).toNat=j:=by omega
  have e0:((0:Nat):Int).toNat=0:=rfl;rw [if_pos (by simp),if_pos (by omega),e2,e0]; rfl
 ·have:=congrArg (List.take j) h3;rwa [take_take,min_eq_left hj,<-map_take] at this
theorem j6 {h:Heap}{k off n c:Nat}{l:List Nat}(r:RowC h k off n c l)(hlen:l.length<=100000):
  FW SS 142 [.slice (some ⟨k,off,none⟩) n c] h (fun v h'=>v = .slice (some ⟨k,off,none⟩) (Num.trimL l).length c/\h'=h):=by
 have hn:n=l.length:=by obtain ⟨_,_,_,h2,_⟩:=r; exact h2
 have L:=jB (some ⟨k,off,none⟩) n c (fun mz r m d g=>m<=l.length/\mz=m/\r=some ⟨k,off,none⟩/\d=c/\RowC h k off m c (l.take m)/\Num.trimL l=Num.trimL (l.take m)/\g=h) (fun v h'=>v = .slice (some ⟨k,off,none⟩) (Num.trimL l).length c/\h'=h) (by
  intro mz r m d; intros; rename_i g hi;obtain ⟨h1,rfl,rfl,rfl,h3,h4,rfl⟩:=hi;have hw:wrap .i64 ((mz:Int) - 1)=(mz:Int) - 1:=am (by omega) (by omega);rw [hw];have hm:mz≠0->l.take mz=l.take (mz - 1)++[l.getD (mz - 1) 0]:=fun hm=>by
   obtain ⟨j,rfl⟩: ∃ j,mz=j+1:=⟨mz - 1,by omega⟩
   rw [List.take_succ_eq_append_getElem (by omega),add_sub_cancel,gD,gE (by omega)]; rfl
  refine ae (fun h5=> ?_) (fun h5=> ?_)
  ·have h5:=dT h5;obtain ⟨p,g2,g3⟩:=xJ h3.rd (i:=(mz:Int) - 1) (by omega) (by rw [length_take]; omega);have e1:(l.take mz).getD ((mz:Int) - 1).toNat 0=l.getD (mz - 1) 0:=by
    rw [show ((mz:Int) - 1).toNat=mz - 1 by omega,gD,getElem?_take,if_pos (by omega),gD]
   rw [e1] at g3;refine ⟨p,g2,_,g3,ae (fun h6=> ?_) (fun h6=> ?_)⟩
   ·have h6:((l.getD (mz - 1) 0:Nat):Int)=0:=by simpa using h6
    have h6:l.getD (mz - 1) 0=0:=by omega
    obtain ⟨g4,g5⟩:=h3.take (j:=mz - 1) (by omega);rw [show ((mz:Int) - 1)=((mz - 1:Nat):Int) by omega];refine ⟨_,_,_,g4,uX (mz - 1) (by omega) ⟨by omega,rfl,rfl,rfl,?_,?_,rfl⟩⟩
    ·rw [take_take,min_eq_left (by omega)] at g5;exact g5
    ·rw [h4,hm (by omega),h6,Num.trimL_snoc_zero]
   ·have h6: ¬ ((l.getD (mz - 1) 0:Nat):Int)=0:=by simpa using h6
    refine ⟨?_,rfl⟩;rw [h4,hm (by omega),Num.trimL_snoc_pos _ (by omega),<-hm (by omega),length_take,min_eq_left h1]
  ·have h5:=dF h5;obtain rfl:mz=0:=by omega
   refine ⟨?_,rfl⟩;rw [h4]; rfl)
 exact vD _ n c h _ (L n ⟨by omega,rfl,rfl,rfl,by rw [show l.take n=l by rw [hn,take_length]]; exact r,by rw [show l.take n=l by rw [hn,take_length]],rfl⟩)
end Go.Proofs.YtoabjjimjldcfaaGreatDoor
end
section
namespace Go.Ab
open Go
theorem OwnR.snocX {P:Program}{t e:TypeId}{i:TypeInfo}(hU:P.underlying t=some (.slice e))(hE:cL P e=some i)(hs:i.size=1){h0 h:Heap}(w0:Wf h0)(a:Ok h0 h){v:Value}{vs:List Value}(o:OwnR h0 h e v vs){x:Value}(hx:bw x=true)(hl:(vs.length+1)*i.bytes<=70368744177664)(hl2:vs.length+1<=1099511627776):
  ∃ (b:Option Addr)(n c:Nat)(u:Upd),ay P t t v (gU 1 1 h.next) (h.push (.cells [x] e 1 true))=some (.slice b n c,u)/\n=vs.length+1/\OwnR h0 (u.app (h.push (.cells [x] e 1 true))) e (.slice b n c) (vs++[x])/\Ok h0 (u.app (h.push (.cells [x] e 1 true)))/\
   (∀ j B,h.get j=some B->(∀ o n c,v≠ .slice (some ⟨j,o,none⟩) n c)->(u.app (h.push (.cells [x] e 1 true))).get j=some B)/\
   (∀ j o m d,Value.slice b n c = .slice (some ⟨j,o,none⟩) m d->h.next<=j\/ ∃ o n c,v = .slice (some ⟨j,o,none⟩) n c):=by
 have hT:bW P t=true:=by unfold bW; rw [hU]
 have hsrc:cg (h.push (.cells [x] e 1 true)) i.size (gU 1 1 h.next)=some ([x],1):=by
  show (match (h.push (.cells [x] e 1 true)).get h.next with | some (.cells cs ..)=>if ((cs.drop 0).take (1*i.size)).length=1*i.size then some ((cs.drop 0).take (1*i.size),1) else none | _=>none)=_;rw [Heap.get_push,if_pos rfl,hs]; rfl
 have hap:=OwnR.push a o (.cells [x] e 1 true);have a':=a.push (.cells [x] e 1 true);have old: ∀ j B,h.get j=some B->(h.push (.cells [x] e 1 true)).get j=some B:=fun j B hj=>by
  rw [Heap.get_push,if_neg (fun e=>by have:=a.wf _ _ hj; omega)]; exact hj
 have oldn: ∀ j B,h.get j=some B->j < h.next:=fun j B hj=>a.wf _ _ hj;generalize hh:h.push (.cells [x] e 1 true)=g at *;have hgn:h.next < g.next:=by rw [<-hh]; exact Nat.lt_succ_self _
 unfold ay;rw [hU]; dsimp only;rw [hE]; dsimp only;rw [if_pos hT,hsrc]; dsimp only;rw [if_pos (by simp [hx,hs])];rcases hap with ⟨rfl,rfl⟩ | ⟨k,cs,rfl,h2,h3,h4,h5⟩
 ·show ∃ b n c u,(if 1=0 then some (Value.slice none 0 0,Upd.no) else if 1*i.bytes<=70368744177664/\1<=1099511627776 then some (Value.slice (some ⟨g.next,0,none⟩) 1 (bi+1),Upd.push (.cells [x] e i.size true)) else none)=_/\_;rw [if_neg (by omega),if_pos (by simpa using And.intro hl hl2)];refine ⟨_,_,_,_,rfl,rfl,.inr ⟨g.next,[x],rfl,a'.nx,?_,rfl,by simp⟩,a'.push _,fun j B hj _=> ?_,fun j o m d e=> .inl ?_⟩
  rotate_left
  ·show (g.push _).get j=_;rw [Heap.get_push,if_neg (fun e=>by have:=oldn _ _ hj; omega)];exact old _ _ hj
  ·injection e with e1 e2 e3
   injection e1 with e1
   injection e1 with e1
   omega
  show (g.push (.cells [x] e i.size true)).get g.next=_;rw [Heap.get_push,if_pos rfl,hs]
 ·dsimp only;rw [if_neg (by omega),hs,mul_one];have hcap:aK (bi+cs.length)=cs.length:=by unfold aK; rw [if_pos (by omega)]; omega
  rw [hcap];have hkn:=a'.wf _ _ h3;by_cases hroom:vs.length+1<=cs.length
  ·rw [if_pos hroom];unfold storeAt;rw [zero_add,h3];dsimp only;rw [if_pos ⟨by simp; omega,by simp [hx]⟩];refine ⟨_,_,_,_,rfl,rfl,.inr ⟨k,cs.take vs.length++[x]++cs.drop (vs.length+1),?_,h2,?_,?_,?_⟩,?_,fun j B hj hv=> ?_,fun j o m d e=> .inr ?_⟩
   rotate_left 5
   ·show (g.set k _).get j=_;rw [Heap.get_set,if_neg (fun e=>hv 0 _ _ (by rw [e]))];exact old _ _ hj
   ·injection e with e1 e2 e3
    injection e1 with e1
    injection e1 with e1
    exact ⟨0,_,_,by rw [<-e1]⟩
   ·simp only [length_append,length_cons,List.length_nil,length_take,length_drop];congr 1; omega
   ·show (g.set k _).get k=_;rw [Heap.get_set,if_pos rfl]; rfl
   ·have h6:(cs.take vs.length).length=vs.length:=by rw [length_take]; omega
    rw [length_append,append_assoc,<-append_assoc,List.take_append_of_le_length (by simp; omega),take_of_length_le (by simp; omega),h4]
   ·simp; omega
   ·exact a'.set _ h2 hkn w0
  ·rw [if_neg hroom];have hcl:cs.length=vs.length:=by omega
   unfold fT;rw [if_pos ⟨hl,hl2⟩,h3];dsimp only;rw [mul_one,if_pos ⟨rfl,rfl,by simp; omega⟩,if_neg (by omega),if_pos ⟨rfl,by omega⟩];refine ⟨_,_,_,_,rfl,rfl,.inr ⟨g.next,vs++[x],?_,a'.nx,?_,?_,?_⟩,?_,fun j B hj hv=> ?_,fun j o m d e=> .inl ?_⟩
   rotate_left 5
   ·show ((g.del k).push _).get j=_;rw [Heap.get_push,if_neg (fun e=>by have:=oldn _ _ hj; have:j=g.next:=e; omega),Heap.get_del,if_neg (fun e=>hv 0 _ _ (by rw [e]))];exact old _ _ hj
   ·injection e with e1 e2 e3
    injection e1 with e1
    injection e1 with e1
    have:g.next=j:=e1;omega
   ·rw [length_append]; rfl
   ·show ((g.del k).push _).get g.next=_;rw [Heap.get_push,if_pos (show g.next=(g.del k).next from rfl),drop_zero,h4]
   ·exact take_length
   ·exact le_refl _
   ·refine ⟨?_,fun j C hj=> ?_,le_trans a'.nx (Nat.le_succ _)⟩
    ·refine Heap.wf_push (fun j C hj=> ?_) _;rw [Heap.get_del] at hj;split at hj
     ·cases hj
     ·exact a'.wf _ _ hj
    ·have h7:=a'.ext _ _ hj;have h8:=a'.wf _ _ h7;show ((g.del k).push _).get j=_;rw [Heap.get_push,if_neg (fun e=>by have:j=g.next:=e; omega),Heap.get_del,if_neg (fun e=>by have:=w0 _ _ hj; omega)];exact h7
end Go.Ab
end
section
namespace Go.Num
theorem trimL_take (l:List Nat):l.take (trimL l).length=trimL l/\(trimL l).length<=l.length:=by
 induction l using jY with
 | h0=>exact ⟨rfl,le_refl _⟩
 | h1 l d ih=>
  by_cases hd:d=0
  ·subst hd;rw [trimL_snoc_zero];refine ⟨?_,by rw [length_append]; omega⟩;rw [List.take_append_of_le_length ih.2];exact ih.1
  ·rw [trimL_snoc_pos l hd,take_length];exact ⟨rfl,le_refl _⟩
theorem toB_top {B n:Nat}(hB:1 < B)(hn:0 < n):0 < (toB B n).getD ((toB B n).length - 1) 0:=by
 have h1:=(IK hB n).2;have h2:toB B n≠[]:=fun e=>by have:=(toB_eq_nil hB).1 e; omega
 rw [List.getLast?_eq_getElem?] at h1;rw [gD]
 cases h:(toB B n)[(toB B n).length - 1]? with
 | none=>
  have:=length_pos_iff.2 h2;rw [gE (by omega)] at h; cases h
 | some d=>
  rw [h] at h1;have:d≠0:=fun e=>h1 (by rw [e]);show 0 < d;omega
theorem toB_len_eq {B n m:Nat}(hB:1 < B)(h1:n < B ^ m)(h2:B ^ (m - 1)<=n)(hm:0 < m):(toB B n).length=m:=by
 refine Nat.le_antisymm (toB_len_le hB h1) ?_;rcases lt_or_ge (toB B n).length m with h | h
 ·have h3:=bv_lt (toB_lt hB n);rw [bv_toB hB] at h3;have:B ^ (toB B n).length<=B ^ (m - 1):=pow_le_pow_right (by omega) (by omega);omega
 ·exact h
theorem factor {B Y:Nat}(hB:1 < B)(hY:0 < Y):let m:=(toB B Y).length; let top:=(toB B Y).getD (m - 1) 0; let k:=B / (top+1)
  0 < m/\top < B/\0 < k/\k<=B/\B ^ (m - 1)<=Y/\Y*k < B ^ m:=by
 intro m top k;have hm:0 < m:=length_pos_iff.2 fun e=>by have:=(toB_eq_nil hB).1 e; omega
 have ht:top < B:=getD_lt (by omega) (toB_lt hB Y) _;have hk:0 < k:=Nat.div_pos (by omega) (by omega);have hlow:=pi hB hY;refine ⟨hm,ht,hk,Nat.div_le_self _ _,hlow,?_⟩;have hup:Y < (top+1)*B ^ (m - 1):=by
  have h1:=qB B (toB B Y) (m - 1) (by omega);rw [i8 (show (toB B Y).length=m - 1+1 by omega),bv_toB hB] at h1;have h2:=bv_lt (b:=B) (x:=(toB B Y).take (m - 1)) (fun d hd=>toB_lt hB Y d (mem_of_mem_take hd));rw [length_take,min_eq_left (by omega)] at h2;rw [add_mul,one_mul,mul_comm top];show Y < B ^ (m - 1)*top+_;have:(toB B Y).getD (m - 1) 0=top:=rfl;rw [this] at h1;omega
 have h3:Y*k < (top+1)*B ^ (m - 1)*k:=Nat.mul_lt_mul_of_pos_right hup hk;have h4:(top+1)*k<=B:=by rw [mul_comm]; exact Nat.div_mul_le_self _ _
 have h5:(top+1)*B ^ (m - 1)*k=(top+1)*k*B ^ (m - 1):=by rw [Nat.mul_right_comm]
 have h6:(top+1)*k*B ^ (m - 1)<=B*B ^ (m - 1):=mul_le_mul_right _ h4;have h7:B*B ^ (m - 1)=B ^ m:=by rw [mul_comm,<-pow_succ]; congr 1; omega
 omega
end Go.Num
end
section
set_option linter.unusedVariables false
set_option maxRecDepth 100000
namespace Go.Proofs.YtoabjjimjldcfaaGreatDoor
open Go Go.Ab
theorem vN: ∀ n,be [uv 0] n=(List.replicate n 0).map uv
 | 0=>rfl
 | n+1=>by rw [be,vN n]; rfl
noncomputable def ti103:TypeInfo:=(SS.P.info? 103).getD default
theorem J4:SS.P.info? 103=some ti103:=by kernel_rfl
theorem Ep:ti103.size=1:=by kernel_rfl
theorem AK:ti103.bytes=8:=by kernel_rfl
theorem Ls:cF SS.P 103=some (uv 0):=by kernel_rfl
theorem NG (n:Nat)(hn:n<=100000):aP SS.P 136 (.int .i64 (n:Int)) (.int .i64 (n:Int))=some (.cells ((List.replicate n 0).map uv) 103 1 true,gU n n):=by
 unfold aP aT;dsimp only;rw [sT]
 try dsimp only
 change (match SS.P.info? 103,cF SS.P 103 with
  | some i,some z=>(if z.cells.size=i.size/\0 < i.size/\(0:Int)<=(n:Int)/\(n:Int)<=(n:Int)/\(n:Int)*i.bytes<=140737488355328/\(n:Int)<=1099511627776 then some (Blk.cells (be z.cells.toList (n:Int).toNat) 103 i.size true,fun k=>Value.slice (some ⟨k,0,none⟩) (n:Int).toNat (n:Int).toNat) else none)
  | _,_=>none)=_
 rw [J4,Ls];dsimp only;rw [Ep,AK,if_pos ⟨rfl,by omega,by omega,Int.le_refl _,by omega,by omega⟩];have e:((n:Int)).toNat=n:=by omega
 rw [e,show (uv 0).cells.toList=[uv 0] from rfl,vN]; rfl
theorem iH {C:List Value}{off:Nat}{W:List Nat}(h:(C.drop off).take W.length=W.map uv):bh C off W=C:=by
 unfold bh;rw [<-h,append_assoc,<-List.drop_drop,take_append_drop,take_append_drop]
theorem wN {C:List Value}{U W W':List Nat}{at':Nat}(hU:at'+W'.length<=U.length)(hl:U.length<=C.length)(hw:W'.length=W.length)(hW:(U.drop at').take W.length=W):
  bh (bh C 0 U) at' W'=bh C 0 (U.take at'++W'++U.drop (at'+W'.length)):=by
 unfold bh;have h1:(C.take 0++U.map uv++C.drop (0+U.length)).take at'=(U.take at').map uv:=by
  rw [take_zero,nil_append,List.take_append_of_le_length (by rw [lM]; omega),map_take]
 have h2:(C.take 0++U.map uv++C.drop (0+U.length)).drop (at'+W'.length)=(U.drop (at'+W'.length)).map uv++C.drop (0+U.length):=by
  rw [take_zero,nil_append,List.drop_append_of_le_length (by rw [lM]; omega),map_drop]
 have h3:(U.take at'++W'++U.drop (at'+W'.length)).length=U.length:=by
  simp only [length_append,length_take,length_drop]; omega
 rw [h1,h2,h3,map_append,map_append,take_zero,nil_append,append_assoc,append_assoc,append_assoc]
theorem kC {C:List Value}{U:List Nat}{at' n:Nat}(hU:at'+n<=U.length):((bh C 0 U).drop at').take n=((U.drop at').take n).map uv:=by
 unfold bh;rw [take_zero,nil_append,List.drop_append_of_le_length (by rw [lM]; omega),List.take_append_of_le_length (by rw [length_drop,lM]; omega),<-map_drop,<-map_take]
theorem uC {C:List Value}{off:Nat}{W:List Nat}(h:off+W.length<=C.length):(bh C off W).length=C.length:=by
 unfold bh;simp only [length_append,length_take,lM,length_drop]; omega
theorem RowC.window {h:Heap}{k off n c:Nat}{l:List Nat}(r:RowC h k off n c l){lo hi:Nat}(h1:lo<=hi)(h2:hi<=n):aH SS.P 136 (.slice (some ⟨k,off,none⟩) n c) (some (.int .i64 (lo:Int))) (some (.int .i64 (hi:Int))) none h=some (.slice (some ⟨k,off+lo,none⟩) (hi - lo) (c - lo)):=by
 obtain ⟨cs,wr,h1',rfl,h3,h4⟩:=r;unfold aH;dsimp only;rw [sT];dsimp only [bI];rw [uD,h1'];dsimp only;have e1:((hi:Int) - (lo:Int)).toNat=hi - lo:=by omega
 have e0:((lo:Nat):Int).toNat=lo:=by omega
 rw [if_pos (by simp),if_pos (by omega),e1,e0,mul_one]
structure DState (h2 G:Heap)(ku kv kq:Nat)(cu:List Value)(cv:List Value)(U Ql:List Nat)(N m XK V j:Nat):Prop where
 ok:Ok h2 G
 w2:Wf h2
 u2:h2.next<=ku
 q2:h2.next<=kq
 gu:G.get ku=some (.cells (bh cu 0 U) 103 1 true)
 gv:G.get kv=some (.cells cv 103 1 true)
 gq:G.get kq=some (.cells (bh ((List.replicate (N+1 - m) 0).map uv) 0 Ql) 103 1 true)
 uv':ku≠kv
 uq:ku≠kq
 vq:kv≠kq
 ul:U.length=N+1
 cl:N+1<=cu.length
 qlen:Ql.length=N+1 - m
 vrow:(cv.take (Num.toB BB V).length)=bl V
 inv:Num.DivInv BB m V XK U Ql j
end Go.Proofs.YtoabjjimjldcfaaGreatDoor
end
section
set_option linter.defProp false
set_option linter.unusedVariables false
set_option maxRecDepth 100000
namespace Go.Proofs.YtoabjjimjldcfaaGreatDoor
open Go Go.Ab
def zQ (h:Heap)(X Y:Nat):VH:=fun v h'=> ∃ (a1:Option Addr)(n1 c1:Nat)(a2:Option Addr)(n2 c2:Nat),v = .tuple ⟨[.slice a1 n1 c1,.slice a2 n2 c2]⟩/\Rd h' 103 (.slice a1 n1 c1) (bl (X / Y))/\Rd h' 103 (.slice a2 n2 c2) (bl (X % Y))/\Ok h h'
theorem uw {g:Heap}{k n c:Nat}{C:List Value}{l:List Nat}(hg:g.get k=some (.cells (bh C 0 l) 103 1 true))(hn:n=l.length)(hc:n<=aK c):RowC g k 0 n c l:=by
 refine ⟨_,_,hg,hn,?_,hc⟩;subst hn;rw [kC (by omega),drop_zero,take_length]
theorem ss {g:Heap}{k n c:Nat}{l:List Nat}(r:RowC g k 0 n c l)(hl: ∀ d∈l,d < BB):Rd g 103 (.slice (some ⟨k,0,none⟩) (Num.trimL l).length c) (bl (Num.bv BB l)):=by
 obtain ⟨h1,h2⟩:=Num.trimL_take l;have hn:n=l.length:=by obtain ⟨_,_,_,h,_⟩:=r; exact h
 have h3:=(r.take (j:=(Num.trimL l).length) (by omega)).2.rd;rw [h1,Num.trimL_eq dx hl] at h3;rw [Num.trimL_eq dx hl];exact h3
def LF {h:Heap}(w:Wf h){X Y ku kq rl rc L k R:Nat}{C Zq:List Value}{Ql:List Nat}(hku:h.next<=ku)(hkq:h.next<=kq)(hne:ku≠kq)(hrl:rl<=C.length)(hrl2:rl<=10000)(hL:L=Ql.length)(hL2:L<=10000)(hcap:rl<=aK rc)(hcapL:L<=aK L)(k0:0 < k)(kB:k<=BB)
  (hQ: ∀ d∈Ql,d < BB) (hq:Num.bv BB Ql=X / Y) (hr:R / k=X % Y) (a:Option Addr) (n c:Nat) (b:Option Addr) (m d:Nat):=
 nq a n c b m d (k:Int) (some ⟨kq,0,none⟩) L L (some ⟨ku,0,none⟩) rl rc (rl:Int)
  (fun mz i left g=>i<=rl/\mz=rl - i/\(∃ (r:List Nat)(ln:Nat),r.length=rl/\left=(ln:Int)/\Num.SmallInv BB k R r (rl - i) ln/\g.get ku=some (.cells (bh C 0 r) 103 1 true))/\g.get kq=some (.cells (bh Zq 0 Ql) 103 1 true)/\Ok h g) (zQ h X Y) (by
  intro mz i left; intros; rename_i g hi;obtain ⟨h1,h2,⟨r,ln,hrlen,rfl,inv,hg⟩,hgq,ok⟩:=hi;have hBv:BB=1000000000:=rfl;have hw1:wrap .i64 ((rl:Int) - 1)=(rl:Int) - 1:=am (by omega) (by omega);have hw2:wrap .i64 ((rl:Int) - 1 - (i:Int))=(rl:Int) - 1 - (i:Int):=am (by omega) (by omega);have hw3:wrap .i64 ((i:Int)+1)=((i+1:Nat):Int):=by rw [am (by omega) (by omega)]; omega
  rw [hw1,hw2,hw3];refine ae (fun h5=> ?_) (fun h5=> ?_)
  ·have h5:=dT h5;have hj:((rl:Int) - 1 - (i:Int)).toNat=rl - 1 - i:=by omega
   have hl:=ws hg (by rw [hrlen]; omega) (i:=rl - 1 - i) (by rw [hrlen]; omega);have hlt:=inv.lt;have hrj:r.getD (rl - 1 - i) 0 < BB:=Num.getD_lt (by decide) inv.rl _;obtain ⟨LB,hLB⟩: ∃ x,x=ln*BB:=⟨_,rfl⟩
   have hLB':LB=1000000000*ln:=by rw [hLB,hBv,mul_comm]
   have ea:wrap .u64 ((ln:Int)*1000000000)=(LB:Int):=wU (by omega) (by omega);have eb:wrap .u64 ((LB:Int)+((r.getD (rl - 1 - i) 0:Nat):Int))=((LB+r.getD (rl - 1 - i) 0:Nat):Int):=wU (by omega) (by omega);refine ⟨_,qK (by omega) (by omega),_,by rw [hj]; exact hl,?_⟩;dsimp only;rw [ea,eb];refine ⟨_,K6 (by omega) k0,_,NF k0,_,qK (by omega) (by omega),?_⟩;have hst:=wh (g:=room g 11) hg (by rw [hrlen]; omega) (i:=rl - 1 - i) (by rw [hrlen]; omega) ((LB+r.getD (rl - 1 - i) 0) / k);have ok':=ok.room 11;have hkn:=ok'.wf _ _ (show (room g 11).get ku=_ from hg);refine ⟨_,by rw [hj]; exact hst,?_⟩;have hstep:=Num.SmallInv.step (at':=rl - 1 - i) k0 (by rw [show rl - 1 - i+1=rl - i by omega]; exact inv);rw [<-hLB] at hstep;refine gO (mz - 1) (by omega) ⟨by omega,by omega,⟨r.set (rl - 1 - i) ((LB+r.getD (rl - 1 - i) 0) / k),(LB+r.getD (rl - 1 - i) 0) % k,by rw [length_set,hrlen],rfl,by rw [show rl - (i+1)=rl - 1 - i by omega]; exact hstep,?_⟩,?_,ok'.set _ hku hkn w⟩
   ·show ((room g 11).set ku _).get ku=_;rw [Heap.get_set,if_pos rfl]
   ·show ((room g 11).set ku _).get kq=_;rw [Heap.get_set,if_neg (fun e=>hne e.symm)];exact hgq
  ·have h5:=dF h5;obtain rfl:i=rl:=by omega
   rw [sub_self] at inv;have hdone:=inv.done k0;have r1:=uw hgq hL hcapL;have r2:=uw hg hrlen.symm hcap;refine (j6 r1 (by omega)).mono ?_;rintro _ _ ⟨rfl,rfl⟩;refine ⟨_,_,_,rfl,(j6 r2 (by omega)).mono ?_⟩;rintro _ _ ⟨rfl,rfl⟩;refine ⟨_,_,_,rfl,_,_,_,_,_,_,rfl,?_,?_,ok⟩
   ·have:=ss r1 hQ;rw [hq] at this; exact this
   ·have:=ss r2 inv.rl;rw [hdone,hr] at this; exact this)
theorem Ok.but {h G G':Heap}{k:Nat}(o:Ok h G)(w:Wf h)(x:OkX G k G')(hk:h.next<=k):Ok h G':=
 ⟨x.wf,fun j B hj=>x.keep j B (fun e=>by have:=w _ _ hj; omega) (o.ext j B hj),le_trans o.nx x.nx⟩
def MZ {h2:Heap}{X Y N m L k ku kv kq ec:Nat}{cu cv:List Value}(hY:0 < Y)(hm:0 < m)(hmN:m<=N)(hN:N<=5000)(hL:L=N+1 - m)(k0:0 < k)(kB:k<=BB)(hVl:(Num.toB BB (Y*k)).length=m)(hVB:Y*k<=BB ^ m)(a:Option Addr)(n c:Nat)(b:Option Addr)(d:Nat):=
 nj a n c b m d (k:Int) (some ⟨kq,0,none⟩) L L (some ⟨ku,0,none⟩) (N+1) (bi+cu.length) (some ⟨kv,0,none⟩) m ec (L:Int)
  (fun mz i G=>i<=L/\mz=L - i/\ ∃ U Ql:List Nat,DState h2 G ku kv kq cu cv U Ql N m (X*k) (Y*k) (L - i)) (zQ h2 X Y) (by
  intro mz i; intros; rename_i G hi;obtain ⟨h1,h2',U,Ql,D⟩:=hi;have hYk:0 < Y*k:=mul_pos hY k0;have hw1:wrap .i64 ((L:Int) - 1)=(L:Int) - 1:=am (by omega) (by omega);have hw3:wrap .i64 ((i:Int)+1)=((i+1:Nat):Int):=by rw [am (by omega) (by omega)]; omega
  have hcap:aK (bi+cu.length)=cu.length:=by unfold aK; rw [if_pos (by omega)]; omega
  have hul:=D.ul;have hcl:=D.cl;have hql:=D.qlen;have ru:=uw (c:=bi+cu.length) D.gu hul.symm (by rw [hcap]; exact hcl);rw [hw1];refine ae (fun h5=> ?_) (fun h5=> ?_)
  ·have h5:=dT h5;obtain ⟨at',hat⟩: ∃ x,x=L - 1 - i:=⟨_,rfl⟩
   have hw2:wrap .i64 ((L:Int) - 1 - (i:Int))=(at':Int):=by rw [am (by omega) (by omega)]; omega
   have hw4:wrap .i64 ((at':Int)+(m:Int))=((at'+m:Nat):Int):=by rw [am (by omega) (by omega)]; omega
   have hw5:wrap .i64 (((at'+m:Nat):Int)+1)=((at'+m+1:Nat):Int):=by rw [am (by omega) (by omega)]; omega
   rw [hw2,hw4,hw5,hw3];have hinv:Num.DivInv BB m (Y*k) (X*k) U Ql (at'+1):=by rw [show at'+1=L - i by omega]; exact D.inv
   obtain ⟨w1,w2,w3⟩:=hinv.window dx hVB;have hwin:=ru.window (lo:=at') (hi:=at'+m+1) (by omega) (by omega);rw [show at'+m+1 - at'=m+1 by omega,zero_add] at hwin;refine ⟨_,_,_,hwin,?_⟩;have hC:(bh cu 0 U).length=cu.length:=uC (by omega);have DI:DigIn G ku at' (bi+cu.length - at') m (bh cu 0 U) ((U.drop at').take (m+1)) (Num.toB BB (Y*k)) (some ⟨kv,0,none⟩) ec:={
    w:=D.ok.wf
    get:=by
     rw [iH (by rw [w3]; exact kC (by omega))];exact D.gu
    fit:=by rw [w3,hC]; omega
    ul:=w3
    vl:=hVl
    mp:=hm
    mle:=by omega
    ult:=fun x hx=>hinv.ul x (mem_of_mem_drop (mem_of_mem_take hx))
    vlt:=Num.toB_lt dx _
    v1:=by have:=Num.toB_top dx hYk; rwa [hVl] at this
    lt:=by rw [Num.bv_toB dx]; exact w2
    rd:=fun g og=> .inr ⟨kv,0,cv,ec,true,by rw [lM,hVl],og.keep _ _ (fun e=>D.uv' e.symm) D.gv,by rw [drop_zero,lM]; exact D.vrow⟩ }
   refine (Ct DI).mono ?_;rintro _ g3 ⟨W',wl,wlt,wbv,rfl,wget,wok⟩;rw [Num.bv_toB dx] at wbv;have hqd:Num.bv BB ((U.drop at').take (m+1)) / Num.bv BB (Num.toB BB (Y*k))=Num.bv BB ((U.drop at').take (m+1)) / (Y*k):=by rw [Num.bv_toB dx]
   rw [hqd];have hdB:Num.bv BB ((U.drop at').take (m+1)) / (Y*k) < BB:=div_lt_of_lt_mul (by rw [mul_comm]; exact w2);have gq3:=wok.keep _ _ (fun e=>D.uq e.symm) D.gq;have gv3:=wok.keep _ _ (fun e=>D.uv' e.symm) D.gv;have ok3:=Ok.but D.ok D.w2 wok D.u2;have hzl:((List.replicate (N+1 - m) 0).map uv).length=N+1 - m:=by rw [lM,length_replicate]
   have hst:=wh gq3 (by rw [hzl]; omega) (i:=at') (by omega) (Num.bv BB ((U.drop at').take (m+1)) / (Y*k));have hkn:=ok3.wf _ _ gq3;have hid:=qK (k:=kq) (off:=0) (n:=L) (c:=L) (i:=(at':Int)) (by omega) (by omega);rw [toNat_natCast] at hid;refine ⟨_,rfl,_,hid,_,hst,?_⟩;have hsplit:Num.bv BB ((U.drop at').take (m+1))=Num.bv BB W'+Num.bv BB ((U.drop at').take (m+1)) / (Y*k)*(Y*k):=by
    have h9:=mod_add_div (Num.bv BB ((U.drop at').take (m+1))) (Y*k);rw [mul_comm (Y*k)] at h9;rw [wbv]; exact h9.symm
   have hnew:=hinv.step dx hVB wlt wl hdB hsplit (by rw [wbv]; exact mod_lt _ hYk);refine bp (mz - 1) (by omega) ⟨by omega,by omega,U.take at'++W'++U.drop (at'+(m+1)),Ql.set at' (Num.bv BB ((U.drop at').take (m+1)) / (Y*k)),{
    ok:=ok3.set _ D.q2 hkn D.w2
    w2:=D.w2
    u2:=D.u2
    q2:=D.q2
    gu:= ?_
    gv:= ?_
    gq:= ?_
    uv':=D.uv'
    uq:=D.uq
    vq:=D.vq
    ul:= ?_
    cl:=hcl
    qlen:=by rw [length_set]; exact hql
    vrow:=D.vrow
    inv:=by rw [show L - (i+1)=at' by omega]; exact hnew }⟩
   ·show (g3.set kq _).get ku=_;rw [Heap.get_set,if_neg D.uq,wget,wN (W:=(U.drop at').take (m+1)) (by omega) (by omega) (by rw [wl,w3]) (by rw [w3]),wl]
   ·show (g3.set kq _).get kv=_;rw [Heap.get_set,if_neg D.vq]; exact gv3
   ·show (g3.set kq _).get kq=_;rw [Heap.get_set,if_pos rfl]
   ·simp only [length_append,length_take,length_drop,wl]; omega
  ·have h5:=dF h5;obtain rfl:i=L:=by omega
   have hinv:=D.inv;rw [sub_self] at hinv;obtain ⟨d1,d2⟩:=hinv.done;obtain ⟨e1,e2⟩:=Num.mul_div_mul_k (X:=X) (Y:=Y) k0;rw [e1] at d1;rw [e2] at d2;have hul':=hinv.ul;obtain ⟨t1,t2⟩:=Num.trimL_take U;refine (j6 ru (by omega)).mono ?_;rintro _ _ ⟨rfl,rfl⟩;refine ⟨_,_,_,rfl,?_⟩;have hC:(bh cu 0 U).length=cu.length:=uC (by omega);have hcapL:aK (N+1 - m)=N+1 - m:=by unfold aK; rw [if_neg (by unfold bi; omega)]
   have hbvt:Num.bv BB (Num.trimL U)=X % Y*k:=by rw [Num.trimL_eq dx hul',Num.bv_toB dx,d2]
   subst hL;rename_i G';refine LF D.w2 (X:=X) (Y:=Y) (ku:=ku) (kq:=kq) (rc:=bi+cu.length) (k:=k) (R:=X % Y*k) (C:=bh cu 0 U) (Zq:=(List.replicate (N+1 - m) 0).map uv) (Ql:=Ql) D.u2 D.q2 D.uq (by rw [hC]; omega) (by omega) hql.symm (by omega) (by rw [hcap]; omega) (by rw [hcapL]; exact le_refl _) k0 kB hinv.ql d1 (Nat.mul_div_cancel _ k0) a n c b m d _ (i:=0)
    ⟨zero_le _,rfl,⟨Num.trimL U,0,rfl,rfl,⟨fun x hx=>hul' x (by rw [<-t1] at hx; exact mem_of_mem_take hx),by omega,k0,?_⟩,?_⟩,D.gq,D.ok⟩
   ·rw [sub_zero,List.drop_length,take_length,hbvt];simp [Num.bv]
   ·rw [iH (by rw [kC (by omega),drop_zero,t1])];exact D.gu)
end Go.Proofs.YtoabjjimjldcfaaGreatDoor
end
section
set_option linter.unusedVariables false
set_option maxRecDepth 100000
namespace Go.Proofs.YtoabjjimjldcfaaGreatDoor
open Go Go.Ab
theorem zh {h:Heap}{a b:Option Addr}{n c mm d:Nat}{X Y:Nat}(ra:Rd h 103 (.slice a n c) (bl X))(rb:Rd h 103 (.slice b mm d) (bl Y))(hY:0 < Y)(hN:(Num.toB BB X).length<=5000)(hM:(Num.toB BB Y).length<=5000)(w:Wf h):
  FW SS 163 [.slice a n c,.slice b mm d] h (zQ h X Y):=by
 have hBv:BB=1000000000:=rfl;have hn:n=(Num.toB BB X).length:=by have:=ra.len; rwa [lM] at this
 have hmm:mm=(Num.toB BB Y).length:=by have:=rb.len; rwa [lM] at this
 obtain ⟨f1,f2,f3,f4,f5,f6⟩:=Num.factor dx hY;rw [<-hmm] at f1 f2 f3 f4 f5 f6;generalize htop:(Num.toB BB Y).getD (mm - 1) 0=top at f2 f3 f4 f6;generalize hkd:BB / (top+1)=k at f3 f4 f6;refine zw a n c b mm d h _ ((kj ra rb (by omega) w).mono ?_);rintro _ h2 ⟨rfl,ok2⟩;refine ⟨_,rfl,ae (fun h1=> ?_) (fun h1=> ?_)⟩
 ·have h1:=Num.cmpN_neg.1 (dT h1);refine ⟨_,_,_,_,_,_,rfl,.inl ⟨rfl,?_⟩,?_,ok2⟩
  ·rw [div_eq_of_lt h1];show (Num.toB BB 0).map uv=[];rw [Num.toB_zero]; rfl
  ·rw [mod_eq_of_lt h1]; exact ra.ok ok2
 ·have hXY:Y<=X:=by
   rcases lt_or_ge X Y with h | h
   ·exact absurd (Num.cmpN_neg.2 h) (dF h1)
   ·exact h
  have hX:0 < X:=by omega
  have hmN:mm<=n:=by
   rcases lt_or_ge n mm with h | h
   ·have:=Num.toB_len_lt dx (m:=X) (n:=Y) (by omega); omega
   ·exact h
  have hw1:wrap .i64 ((mm:Int) - 1)=((mm - 1:Nat):Int):=by rw [am (by omega) (by omega)]; omega
  have hj:((mm - 1:Nat):Int).toNat=mm - 1:=by omega
  obtain ⟨p,g2,g3⟩:=xJ (rb.ok ok2) (i:=((mm - 1:Nat):Int)) (by omega) (by omega);rw [hj,htop] at g3;have et:wrap .u64 ((top:Int)+1)=((top+1:Nat):Int):=wU (by omega) (by omega);have hquo:al SS.P .quo 103 (.int .u64 1000000000) (.int .u64 ((top+1:Nat):Int))=some (.int .u64 (k:Int)):=by
   have:=K6 (a:=BB) (b:=top+1) (by decide) (by omega);rw [hkd] at this;exact this
  rw [hw1];refine ⟨p,g2,_,g3,?_⟩;dsimp only;rw [et];refine ⟨_,hquo,?_⟩;refine (qy (ra.ok ok2) (Num.toB_lt dx X) (by omega) f3 f4 ok2.wf).mono ?_;rintro _ h8 ⟨a9,n10,c11,rfl,ou,ok8⟩;rw [Num.bv_toB dx] at ou;refine ⟨a9,n10,c11,rfl,(qy ((rb.ok ok2).ok ok8) (Num.toB_lt dx Y) (by omega) f3 f4 ok8.wf).mono ?_⟩;rintro _ h13 ⟨a14,n15,c16,rfl,ov,ok13⟩;rw [Num.bv_toB dx] at ov;refine ⟨a14,n15,c16,rfl,?_⟩;have hYk:0 < Y*k:=mul_pos hY f3;have hVl:(Num.toB BB (Y*k)).length=mm:=Num.toB_len_eq dx f6 (le_trans f5 (Nat.le_mul_of_pos_right Y f3)) f1;have hvlen:(bl (Y*k)).length=mm:=by rw [lM]; exact hVl
  rcases ov with ⟨_,e⟩ | ⟨kv,cv,e,hkv,gv,tv,lv⟩
  ·rw [e] at hvlen; simp at hvlen; omega
  injection e with e1 e2 e3
  subst e1;obtain rfl:n15=mm:=by rw [e2,hvlen]
  rw [hvlen] at tv;have hbvX:=Num.bv_lt (Num.toB_lt dx X);rw [Num.bv_toB dx,<-hn] at hbvX;have hXk:0 < X*k:=mul_pos hX f3;have L1:=mL a n c b n15 d (k:Int) (some ⟨kv,0,none⟩) n15 c16
   (fun mz r rn rc g=>rn<=n+1/\mz=n+1 - rn/\0 < rn/\ ∃ U:List Nat,U.length=rn/\OwnR h g 103 (.slice r rn rc) (U.map uv)/\Ok h g/\(∀ x∈U,x < BB)/\Num.bv BB U=X*k/\g.get kv=some (.cells cv 103 1 true)/\(∀ o n c,Value.slice r rn rc≠ .slice (some ⟨kv,o,none⟩) n c)) (zQ h X Y) (by
   intro mz r rn rc; intros; rename_i g hi;obtain ⟨h1,h2',h3,U,hU,o,ok,hlt,hbv,gkv,hne⟩:=hi;refine ae (fun h5=> ?_) (fun h5=> ?_)
   ·have h5:=dT h5;refine ⟨_,_,_,mq _,?_⟩;obtain ⟨b',m',d',u,g6,g7,g8,g9,g10,g11⟩:=OwnR.snocX (P:=SS.P) (t:=136) (x:= .int .u64 0) sT Bu we w ok o rfl (by rw [tD,lM]; omega) (by rw [lM]; omega);rw [lM,hU] at g7;subst g7;refine ⟨b',_,d',u,g6,uX (mz - 1) (by omega) ⟨by omega,by omega,by omega,U++[0],by simp [hU],?_,g9,?_,?_,g10 _ _ gkv hne,?_⟩⟩
    ·rw [map_append]; exact g8
    ·intro x hx;rcases List.mem_append.1 hx with hx | hx
     ·exact hlt x hx
     ·rw [List.mem_singleton.1 hx]; decide
    ·rw [Num.bv_snoc,hbv]; simp
    ·intro o' n' c' e;rcases g11 _ _ _ _ e with h7 | ⟨o2,n2,c2,h7⟩
     ·have:=ok.wf _ _ gkv; omega
     ·exact hne _ _ _ h7
   ·have h5:=dF h5;obtain rfl:rn=n+1:=by omega
    rcases o with ⟨_,e⟩ | ⟨ku,cu,e,hku,gu,tu,lu⟩
    ·have:=congrArg List.length e;rw [lM,hU] at this;have h9:n+1=0:=this;omega
    rw [lM,hU] at e tu lu;injection e with e1 _ e3
    subst e1;subst e3;have hwL:wrap .i64 (((n+1:Nat):Int) - (n15:Int))=((n+1 - n15:Nat):Int):=by rw [am (by omega) (by omega)]; omega
    rw [hwL];refine ⟨_,_,_,NG _ (by omega),?_⟩;have hkun:=ok.wf _ _ gu;have hkvn:=ok.wf _ _ gkv;have huv:ku≠kv:=fun e=>hne 0 (n+1) (bi+cu.length) (by rw [e]);have hcapz:((List.replicate (n+1 - n15) 0).map uv).length=n+1 - n15:=by rw [lM,length_replicate]
    exact MZ (h2:=h) (X:=X) (Y:=Y) (N:=n) (m:=n15) (L:=n+1 - n15) (k:=k) (ku:=ku) (kv:=kv) (kq:=g.next) (ec:=c16) (cu:=cu) (cv:=cv) hY f1 hmN (by omega) rfl f3 f4 hVl (Nat.le_of_lt f6) a n c b d (n+1 - n15) (i:=0)
     ⟨zero_le _,rfl,U,List.replicate (n+1 - n15) 0,{
      ok:=ok.push _
      w2:=w
      u2:=hku
      q2:=ok.nx
      gu:=by
       rw [Heap.get_push,if_neg (by omega),iH (by rw [drop_zero,hU]; exact tu)];exact gu
      gv:=by rw [Heap.get_push,if_neg (by omega)]; exact gkv
      gq:=by
       rw [Heap.get_push,if_pos rfl,iH (by rw [drop_zero,length_replicate,take_of_length_le (by rw [hcapz]; exact le_refl _)])]
      uv':=huv
      uq:=by omega
      vq:=by omega
      ul:=hU
      cl:=lu
      qlen:=by rw [length_replicate]
      vrow:=by rw [hVl]; exact tv
      inv:=Num.DivInv.start dx hlt hU hmN hbvX f5 f1 f3 hbv }⟩)
  have hou:=OwnR.weak ok2.nx ou;have hlenu:n10=(Num.toB BB (X*k)).length:=by have:=ou.len; rwa [lM] at this
  have hkvlt:h8.next<=kv:=hkv;have hXkl:(Num.toB BB (X*k)).length<=n+1:=by
   refine Num.toB_len_le dx ?_;rw [pow_succ];exact lt_of_lt_of_le (Nat.mul_lt_mul_of_pos_right hbvX f3) (mul_le_mul_left _ f4)
  have hpos:0 < (Num.toB BB (X*k)).length:=length_pos_iff.2 fun e=>by have:=(Num.toB_eq_nil dx).1 e; omega
  refine L1 (n+1 - n10) ⟨by omega,rfl,by omega,Num.toB BB (X*k),hlenu.symm,hou.ok ok13,(ok2.trans ok8).trans ok13,Num.toB_lt dx _,Num.bv_toB dx _,gv,?_⟩;intro o n' c' e;rcases ou with ⟨e',_⟩ | ⟨ku,cu,e',hku,gu,_,_⟩
  ·rw [e'] at e; injection e with e; cases e
  ·rw [e'] at e;injection e with e _ _
   injection e with e
   injection e with e
   have:=ok8.wf _ _ gu;omega
abbrev dQ:LB:=[0,1,2,2,3,3,3,3,4,4,4,4,4,4,4,4,5,5,5,5,5,5,5,5,5,5,5,5,5,5,5,5,6,6,6,6,6,6,6,6,6,6,6,6,6,6,6,6,6,6,6,6,6,6,6,6,6,6,6,6,6,6,6,6,7,7,7,7,7,7,7,7,7,7,7,7,7,7,7,7,7,7,7,7,7,7,7,7,7,7,7,7,7,7,7,7,7,7,7,7,7,7,7,7,7,7,7,7,7,7,7,7,7,7,7,7,7,7,7,7,7,7,7,7,7,7,7,7,8,8,8,8,8,8,8,8,8,8,8,8,8,8,8,8,8,8,8,8,8,8,8,8,8,8,8,8,8,8,8,8,8,8,8,8,8,8,8,8,8,8,8,8,8,8,8,8,8,8,8,8,8,8,8,8,8,8,8,8,8,8,8,8,8,8,8,8,8,8,8,8,8,8,8,8,8,8,8,8,8,8,8,8,8,8,8,8,8,8,8,8,8,8,8,8,8,8,8,8,8,8,8,8,8,8,8,8,8,8,8,8,8,8,8,8,8,8,8,8,8,8,8,8,8,8,8,8]
noncomputable def Ms:FD:=bF Tryz.f93 []
theorem JX (u:Int)(h:Heap)(Q:VH)(hx:au (decide ((u:Int)>=4294967296)) (xI .u64 (al SS.P .shr 103 (.int .u64 u) (.int .u64 32)) fun n1=>au (decide ((n1:Int)>=65536)) (xI .u64 (al SS.P .shr 103 (.int .u64 n1) (.int .u64 16)) fun n2=>au (decide ((n2:Int)>=256)) (xI .u64 (al SS.P .shr 103 (.int .u64 n2) (.int .u64 8)) fun n3=>xI .u8 (aQ SS.P 9 (aa dQ) (.int .u8 (wrap .u8 n3))) fun n4=>Q (.int .i64 (wrap .i64 (wrap .i64 (wrap .i64 (32+16)+8)+wrap .i64 n4))) h) (xI .u8 (aQ SS.P 9 (aa dQ) (.int .u8 (wrap .u8 n2))) fun n5=>Q (.int .i64 (wrap .i64 (wrap .i64 (32+16)+wrap .i64 n5))) h)) (au (decide ((n1:Int)>=256)) (xI .u64 (al SS.P .shr 103 (.int .u64 n1) (.int .u64 8)) fun n6=>xI .u8 (aQ SS.P 9 (aa dQ) (.int .u8 (wrap .u8 n6))) fun n7=>Q (.int .i64 (wrap .i64 (wrap .i64 (32+8)+wrap .i64 n7))) h) (xI .u8 (aQ SS.P 9 (aa dQ) (.int .u8 (wrap .u8 n1))) fun n8=>Q (.int .i64 (wrap .i64 (32+wrap .i64 n8))) h))) (au (decide ((u:Int)>=65536)) (xI .u64 (al SS.P .shr 103 (.int .u64 u) (.int .u64 16)) fun n9=>au (decide ((n9:Int)>=256)) (xI .u64 (al SS.P .shr 103 (.int .u64 n9) (.int .u64 8)) fun n10=>xI .u8 (aQ SS.P 9 (aa dQ) (.int .u8 (wrap .u8 n10))) fun n11=>Q (.int .i64 (wrap .i64 (wrap .i64 (wrap .i64 (0+16)+8)+wrap .i64 n11))) h) (xI .u8 (aQ SS.P 9 (aa dQ) (.int .u8 (wrap .u8 n9))) fun n12=>Q (.int .i64 (wrap .i64 (wrap .i64 (0+16)+wrap .i64 n12))) h)) (au (decide ((u:Int)>=256)) (xI .u64 (al SS.P .shr 103 (.int .u64 u) (.int .u64 8)) fun n13=>xI .u8 (aQ SS.P 9 (aa dQ) (.int .u8 (wrap .u8 n13))) fun n14=>Q (.int .i64 (wrap .i64 (wrap .i64 (0+8)+wrap .i64 n14))) h) (xI .u8 (aQ SS.P 9 (aa dQ) (.int .u8 (wrap .u8 u))) fun n15=>Q (.int .i64 (wrap .i64 (0+wrap .i64 n15))) h)))):FW SS 93 [(.int .u64 u)] h Q:=bG Ms Tryz.func93 (aj hx)
noncomputable def Cq:FD:=bF Tryz.f198 []
theorem An (n:Int)(h:Heap)(Q:VH)(hx:xI .i64 (al SS.P .shr 3 (.int .i64 (wrap .i64 (n*78913))) (.int .u64 18)) fun n1=>Q (.int .i64 n1) h):FW SS 198 [(.int .i64 n)] h Q:=bG Cq Tryz.func198 (aj hx)
noncomputable def L4:FD:=bF Tryz.f199 []
theorem JM (b:Bool)(h:Heap)(Q:VH)(hx:au b (Q (.int .i64 1) h) (Q (.int .i64 0) h)):FW SS 199 [(.bool b)] h Q:=bG L4 Tryz.func199 (aj hx)
noncomputable def A1:FD:=bF Tryz.f191 []
theorem zT (u:Int)(h:Heap)(Q:VH)(hx:FW SS 93 [(.int .u64 u)] h fun v1 h2=>yI .i64 v1 fun n3=>FW SS 198 [(.int .i64 n3)] h2 fun v4 h5=>yI .i64 v4 fun n6=>xP (ag SS.P 185 (pA 1) (.int .i64 n6)) fun p7=>xI .u64 (ah SS.P 103 h5 (.pointer (some p7))) fun n8=>FW SS 199 [(.bool (decide ((u:Int)>=n8)))] h5 fun v9 h10=>yI .i64 v9 fun n11=>Q (.int .i64 (wrap .i64 (n6+n11))) h10):FW SS 191 [(.int .u64 u)] h Q:=bG A1 Tryz.func191 (aj hx)
abbrev aY:LB:=[48,48,48,49,48,50,48,51,48,52,48,53,48,54,48,55,48,56,48,57,49,48,49,49,49,50,49,51,49,52,49,53,49,54,49,55,49,56,49,57,50,48,50,49,50,50,50,51,50,52,50,53,50,54,50,55,50,56,50,57,51,48,51,49,51,50,51,51,51,52,51,53,51,54,51,55,51,56,51,57,52,48,52,49,52,50,52,51,52,52,52,53,52,54,52,55,52,56,52,57,53,48,53,49,53,50,53,51,53,52,53,53,53,54,53,55,53,56,53,57,54,48,54,49,54,50,54,51,54,52,54,53,54,54,54,55,54,56,54,57,55,48,55,49,55,50,55,51,55,52,55,53,55,54,55,55,55,56,55,57,56,48,56,49,56,50,56,51,56,52,56,53,56,54,56,55,56,56,56,57,57,48,57,49,57,50,57,51,57,52,57,53,57,54,57,55,57,56,57,57]
noncomputable def Mm:FD:=bF Tryz.f190 []
theorem I5 (n:Int)(h:Heap)(Q:VH)(hx:au (decide ((n:Int) < 10)) (xS (aH SS.P 9 (aa [48,49,50,51,52,53,54,55,56,57,97,98,99,100,101,102,103,104,105,106,107,108,109,110,111,112,113,114,115,116,117,118,119,120,121,122]) (some (.int .i64 n)) (some (.int .i64 (wrap .i64 (n+1)))) none h) fun l1=>Q (aa l1) h) (xS (aH SS.P 9 (aa aY) (some (.int .i64 (wrap .i64 (n*2)))) (some (.int .i64 (wrap .i64 (wrap .i64 (n*2)+2)))) none h) fun l2=>Q (aa l2) h)):FW SS 190 [(.int .i64 n)] h Q:=bG Mm Tryz.func190 (aj hx)
noncomputable def lC:FD:=bF Tryz.f192 [([1,0,0,0],[0,1,4])]
abbrev io (a:OA)(n c:Nat)(i:Nat)(v:Int):LV:=[(.slice a n c),(.int .u64 v),(iA i)]
theorem Jf (a:OA)(n c:Nat)(u:Int)(h:Heap)(Q:VH)(hx:LL SS lC [1,0,0,0] (io a n c n u) h (KK SS lC [1,0,0] [] (EE SS lC Q))):FW SS 192 [(.slice a n c),(.int .u64 u)] h Q:=bG lC Tryz.func192 (aj hx)
theorem sh (a:OA)(n c:Nat)(u:Int)  (Inv:Nat->Nat->Int->Heap->Prop) (Q:VH) (step: ∀ (mz:Nat)(i:Nat)(v:Int)(zz:Nat->Value)(h:Heap),Inv mz i v h->au (decide (((i:Int):Int)>=8)) (xI .u64 (al SS.P .rem 103 (.int .u64 v) (.int .u64 100000000)) fun n1=>xI .u64 (al SS.P .quo 103 (.int .u64 v) (.int .u64 100000000)) fun n2=>xI .u32 (al SS.P .quo 101 (.int .u32 (wrap .u32 n1)) (.int .u32 10000)) fun n3=>xI .u32 (al SS.P .rem 101 (.int .u32 (wrap .u32 n1)) (.int .u32 10000)) fun n4=>xI .u32 (al SS.P .quo 101 (.int .u32 n4) (.int .u32 100)) fun n5=>xI .u32 (al SS.P .rem 101 (.int .u32 n4) (.int .u32 100)) fun n6=>xI .u32 (al SS.P .quo 101 (.int .u32 n3) (.int .u32 100)) fun n7=>xI .u32 (al SS.P .rem 101 (.int .u32 n3) (.int .u32 100)) fun n8=>xI .u8 (aQ SS.P 9 (aa aY) (.int .u32 (wrap .u32 (wrap .u32 (n6*2)+1)))) fun n9=>xI .u8 (aQ SS.P 9 (aa aY) (.int .u32 (wrap .u32 (n6*2)))) fun n10=>xP (ag SS.P 157 (.slice a n c) (.int .i64 (wrap .i64 ((i:Int) - 1)))) fun p11=>xU (ai SS.P 5 (.pointer (some p11)) (.int .u8 n9) (room h 15)) (room h 15) fun u12 g13=>xP (ag SS.P 157 (.slice a n c) (.int .i64 (wrap .i64 ((i:Int) - 2)))) fun p14=>xU (ai SS.P 5 (.pointer (some p14)) (.int .u8 n10) g13) g13 fun u15 g16=>xI .u8 (aQ SS.P 9 (aa aY) (.int .u32 (wrap .u32 (wrap .u32 (n5*2)+1)))) fun n17=>xI .u8 (aQ SS.P 9 (aa aY) (.int .u32 (wrap .u32 (n5*2)))) fun n18=>xP (ag SS.P 157 (.slice a n c) (.int .i64 (wrap .i64 ((i:Int) - 3)))) fun p19=>xU (ai SS.P 5 (.pointer (some p19)) (.int .u8 n17) (room g16 15)) (room g16 15) fun u20 g21=>xP (ag SS.P 157 (.slice a n c) (.int .i64 (wrap .i64 ((i:Int) - 4)))) fun p22=>xU (ai SS.P 5 (.pointer (some p22)) (.int .u8 n18) g21) g21 fun u23 g24=>xI .u8 (aQ SS.P 9 (aa aY) (.int .u32 (wrap .u32 (wrap .u32 (n8*2)+1)))) fun n25=>xI .u8 (aQ SS.P 9 (aa aY) (.int .u32 (wrap .u32 (n8*2)))) fun n26=>xP (ag SS.P 157 (.slice a n c) (.int .i64 (wrap .i64 ((i:Int) - 5)))) fun p27=>xU (ai SS.P 5 (.pointer (some p27)) (.int .u8 n25) (room g24 15)) (room g24 15) fun u28 g29=>xP (ag SS.P 157 (.slice a n c) (.int .i64 (wrap .i64 ((i:Int) - 6)))) fun p30=>xU (ai SS.P 5 (.pointer (some p30)) (.int .u8 n26) g29) g29 fun u31 g32=>xI .u8 (aQ SS.P 9 (aa aY) (.int .u32 (wrap .u32 (wrap .u32 (n7*2)+1)))) fun n33=>xI .u8 (aQ SS.P 9 (aa aY) (.int .u32 (wrap .u32 (n7*2)))) fun n34=>xP (ag SS.P 157 (.slice a n c) (.int .i64 (wrap .i64 ((i:Int) - 7)))) fun p35=>xU (ai SS.P 5 (.pointer (some p35)) (.int .u8 n33) (room g32 15)) (room g32 15) fun u36 g37=>xP (ag SS.P 157 (.slice a n c) (.int .i64 (wrap .i64 ((i:Int) - 8)))) fun p38=>xU (ai SS.P 5 (.pointer (some p38)) (.int .u8 n34) g37) g37 fun u39 g40=>ax (qh (io a n c) Inv) mz [(.slice a n c),(.int .u64 n2),(.int .i64 (wrap .i64 ((i:Int) - 8)))] g40) (au (decide (((i:Int):Int)>=4)) (xI .u32 (al SS.P .rem 101 (.int .u32 (wrap .u32 v)) (.int .u32 10000)) fun n41=>xI .u32 (al SS.P .quo 101 (.int .u32 (wrap .u32 v)) (.int .u32 10000)) fun n42=>xI .u32 (al SS.P .quo 101 (.int .u32 n41) (.int .u32 100)) fun n43=>xI .u32 (al SS.P .rem 101 (.int .u32 n41) (.int .u32 100)) fun n44=>xI .u8 (aQ SS.P 9 (aa aY) (.int .u32 (wrap .u32 (wrap .u32 (n44*2)+1)))) fun n45=>xI .u8 (aQ SS.P 9 (aa aY) (.int .u32 (wrap .u32 (n44*2)))) fun n46=>xP (ag SS.P 157 (.slice a n c) (.int .i64 (wrap .i64 ((i:Int) - 1)))) fun p47=>xU (ai SS.P 5 (.pointer (some p47)) (.int .u8 n45) (room h 15)) (room h 15) fun u48 g49=>xP (ag SS.P 157 (.slice a n c) (.int .i64 (wrap .i64 ((i:Int) - 2)))) fun p50=>xU (ai SS.P 5 (.pointer (some p50)) (.int .u8 n46) g49) g49 fun u51 g52=>xI .u8 (aQ SS.P 9 (aa aY) (.int .u32 (wrap .u32 (wrap .u32 (n43*2)+1)))) fun n53=>xI .u8 (aQ SS.P 9 (aa aY) (.int .u32 (wrap .u32 (n43*2)))) fun n54=>xP (ag SS.P 157 (.slice a n c) (.int .i64 (wrap .i64 ((i:Int) - 3)))) fun p55=>xU (ai SS.P 5 (.pointer (some p55)) (.int .u8 n53) (room g52 15)) (room g52 15) fun u56 g57=>xP (ag SS.P 157 (.slice a n c) (.int .i64 (wrap .i64 ((i:Int) - 4)))) fun p58=>xU (ai SS.P 5 (.pointer (some p58)) (.int .u8 n54) g57) g57 fun u59 g60=>au (decide ((wrap .i64 ((i:Int) - 4):Int)>=2)) (xI .u32 (al SS.P .rem 101 (.int .u32 n42) (.int .u32 100)) fun n61=>xI .u32 (al SS.P .quo 101 (.int .u32 n42) (.int .u32 100)) fun n62=>xI .u8 (aQ SS.P 9 (aa aY) (.int .u32 (wrap .u32 (wrap .u32 (n61*2)+1)))) fun n63=>xI .u8 (aQ SS.P 9 (aa aY) (.int .u32 (wrap .u32 (n61*2)))) fun n64=>xP (ag SS.P 157 (.slice a n c) (.int .i64 (wrap .i64 (wrap .i64 ((i:Int) - 4) - 1)))) fun p65=>xU (ai SS.P 5 (.pointer (some p65)) (.int .u8 n63) (room g60 15)) (room g60 15) fun u66 g67=>xP (ag SS.P 157 (.slice a n c) (.int .i64 (wrap .i64 (wrap .i64 ((i:Int) - 4) - 2)))) fun p68=>xU (ai SS.P 5 (.pointer (some p68)) (.int .u8 n64) g67) g67 fun u69 g70=>au (decide ((wrap .i64 (wrap .i64 ((i:Int) - 4) - 2):Int) > 0)) (xP (ag SS.P 157 (.slice a n c) (.int .i64 0)) fun p71=>xU (ai SS.P 5 (.pointer (some p71)) (.int .u8 (wrap .u8 (wrap .u32 (48+n62)))) g70) g70 fun u72 g73=>Q (.tuple ⟨[]⟩) g73) (Q (.tuple ⟨[]⟩) g70)) (au (decide ((wrap .i64 ((i:Int) - 4):Int) > 0)) (xP (ag SS.P 157 (.slice a n c) (.int .i64 0)) fun p74=>xU (ai SS.P 5 (.pointer (some p74)) (.int .u8 (wrap .u8 (wrap .u32 (48+n42)))) g60) g60 fun u75 g76=>Q (.tuple ⟨[]⟩) g76) (Q (.tuple ⟨[]⟩) g60))) (au (decide (((i:Int):Int)>=2)) (xI .u32 (al SS.P .rem 101 (.int .u32 (wrap .u32 v)) (.int .u32 100)) fun n77=>xI .u32 (al SS.P .quo 101 (.int .u32 (wrap .u32 v)) (.int .u32 100)) fun n78=>xI .u8 (aQ SS.P 9 (aa aY) (.int .u32 (wrap .u32 (wrap .u32 (n77*2)+1)))) fun n79=>xI .u8 (aQ SS.P 9 (aa aY) (.int .u32 (wrap .u32 (n77*2)))) fun n80=>xP (ag SS.P 157 (.slice a n c) (.int .i64 (wrap .i64 ((i:Int) - 1)))) fun p81=>xU (ai SS.P 5 (.pointer (some p81)) (.int .u8 n79) (room h 15)) (room h 15) fun u82 g83=>xP (ag SS.P 157 (.slice a n c) (.int .i64 (wrap .i64 ((i:Int) - 2)))) fun p84=>xU (ai SS.P 5 (.pointer (some p84)) (.int .u8 n80) g83) g83 fun u85 g86=>au (decide ((wrap .i64 ((i:Int) - 2):Int) > 0)) (xP (ag SS.P 157 (.slice a n c) (.int .i64 0)) fun p87=>xU (ai SS.P 5 (.pointer (some p87)) (.int .u8 (wrap .u8 (wrap .u32 (48+n78)))) g86) g86 fun u88 g89=>Q (.tuple ⟨[]⟩) g89) (Q (.tuple ⟨[]⟩) g86)) (au (decide (((i:Int):Int) > 0)) (xP (ag SS.P 157 (.slice a n c) (.int .i64 0)) fun p90=>xU (ai SS.P 5 (.pointer (some p90)) (.int .u8 (wrap .u8 (wrap .u32 (48+wrap .u32 v)))) h) h fun u91 g92=>Q (.tuple ⟨[]⟩) g92) (Q (.tuple ⟨[]⟩) h))))) (mz:Nat) {i:Nat} {v:Int} {h:Heap} (hi:Inv mz i v h):LL SS lC [1,0,0,0] (io a n c i v) h (KK SS lC [1,0,0] [] (EE SS lC Q)):=
 ki (io a n c) Inv (fun mz i v zz h hi=>aj (step mz i v zz h hi)) mz hi
noncomputable def Ed:FD:=bF Tryz.f180 []
theorem AI (u:Int)(h:Heap)(Q:VH)(hx:au (((10:Int) == 10)) (au (decide ((u:Int) < 100)) (FW SS 190 [(.int .i64 (wrap .i64 u))] h fun v1 h2=>yS v1 fun l3=>Q (aa l3) h2) (xN (aF SS.P 177) h fun B4 g5=>FW SS 191 [(.int .u64 u)] g5 fun v6 h7=>yI .i64 v6 fun n8=>xL (aH SS.P 177 (pA (h.next)) none (some (.int .i64 n8)) none h7) fun a9 n10 c11=>FW SS 192 [(.slice a9 n10 c11),(.int .u64 u)] h7 fun v12 h13=>v12=(.tuple ⟨[]⟩)/\xL (aH SS.P 177 (pA (h.next)) none (some (.int .i64 n8)) none h13) fun a14 n15 c16=>xS (tH SS.P 157 9 (.slice a14 n15 c16) h13) fun l17=>Q (aa l17) h13)) (FW SS 193 [nA,(.int .u64 u),(.int .i64 10),(.bool false),(.bool false)] h fun v18 h19=> ∃ (a20:OA) (n21 c22:Nat),∃ l23:LB,v18=(.tuple ⟨[(.slice a20 n21 c22),(aa l23)]⟩)/\Q (aa l23) h19)):FW SS 180 [(.int .u64 u),(.int .i64 10)] h Q:=bG Ed Tryz.func180 (aj hx)
noncomputable def Hw:FD:=bF Tryz.f170 []
theorem Em (u:Int)(h:Heap)(Q:VH)(hx:FW SS 180 [(.int .u64 u),(.int .i64 10)] h fun v1 h2=>yS v1 fun l3=>Q (aa l3) h2):FW SS 170 [(.int .u64 u),(.int .i64 10)] h Q:=bG Hw Tryz.func170 (aj hx)
end Go.Proofs.YtoabjjimjldcfaaGreatDoor
end
section
set_option linter.unusedVariables false
namespace Go.Num
def wid:Nat->Nat->List UInt8
 | 0,_=>[]
 | n+1,u=>wid n (u / 10)++[dig (u % 10)]
theorem wid_len: ∀ n u,(wid n u).length=n
 | 0,_=>rfl
 | n+1,u=>by rw [wid,length_append,wid_len n]; rfl
theorem wid_cons: ∀ (n u:Nat),wid (n+1) u=dig (u / 10 ^ n % 10)::wid n u
 | 0,u=>by simp [wid]
 | n+1,u=>by
  rw [wid,wid_cons n (u / 10),wid,cons_append,Nat.div_div_eq_div_mul,pow_succ,mul_comm 10]
theorem wid_dec {n u:Nat}(h1:u < 10 ^ (n+1))(h2:n=0\/10 ^ n<=u):wid (n+1) u=toDec u:=by
 induction n generalizing u with
 | zero=>
  rw [toDec_lt (by simpa using h1)];simp only [wid,nil_append];rw [mod_eq_of_lt (by simpa using h1)]
 | succ n ih=>
  have h3:10 ^ (n+1)<=u:=by rcases h2 with h | h; omega; exact h
  have h4:10<=u:=by
   have:10 ^ 1<=10 ^ (n+1):=pow_le_pow_right (by omega) (by omega);omega
  rw [toDec_ge h4,wid,ih]
  ·rw [Nat.div_lt_iff_lt_mul (by omega),<-pow_succ]; exact h1
  ·right;rw [Nat.le_div_iff_mul_le (by omega),<-pow_succ]; exact h3
theorem Fb {u:Nat}: ∀ {n:Nat},u < 10 ^ n->0 < n->wid n u=List.replicate (n - (toDec u).length) 48++toDec u
 | 0,_,h=>absurd h (by omega)
 | n+1,h,_=>by
  by_cases hn:n=0\/10 ^ n<=u
  ·have h1:=wid_dec h hn;have h2:=congrArg List.length h1;rw [wid_len] at h2;rw [h1,<-h2]; simp
  ·have hn1:n≠0:=fun h=>hn (.inl h);have hn2:u < 10 ^ n:=Nat.lt_of_not_le fun h=>hn (.inr h);have hl:=(toDec_len_le (n:=u) (k:=n) (by omega)).2 hn2;rw [wid_cons,Fb hn2 (by omega),div_eq_of_lt hn2,show n+1 - (toDec u).length=(n - (toDec u).length)+1 by omega,List.replicate_succ]; rfl
end Go.Num
end
section
set_option linter.unusedVariables false
set_option maxRecDepth 100000
namespace Go.Proofs.YtoabjjimjldcfaaGreatDoor
open Go Go.Ab
theorem EF {P:Program}{t:TypeId}{a:Int}(h:0<=a){s:Nat}(hs:s<=64):al P .shr t (.int .u64 a) (.int .u64 (s:Int))=some (.int .u64 (a / 2 ^ s)):=by
 show (if 0<=(s:Int) then some (Value.int .u64 (a.fdiv (2 ^ (min (s:Int).toNat 64)))) else none)=_;rw [if_pos (by omega),toNat_natCast,min_eq_left hs,Int.fdiv_eq_ediv_of_nonneg _ (Int.le_of_lt (Int.pow_pos (by decide)))]
theorem LI {P:Program}{t:TypeId}{a:Int}(h:0<=a){s:Nat}(hs:s<=64):al P .shr t (.int .i64 a) (.int .u64 (s:Int))=some (.int .i64 (a / 2 ^ s)):=by
 show (if 0<=(s:Int) then some (Value.int .i64 (a.fdiv (2 ^ (min (s:Int).toNat 64)))) else none)=_;rw [if_pos (by omega),toNat_natCast,min_eq_left hs,Int.fdiv_eq_ediv_of_nonneg _ (Int.le_of_lt (Int.pow_pos (by decide)))]
def LT8:List UInt8:=[0,1,2,2,3,3,3,3,4,4,4,4,4,4,4,4,5,5,5,5,5,5,5,5,5,5,5,5,5,5,5,5,6,6,6,6,6,6,6,6,6,6,6,6,6,6,6,6,6,6,6,6,6,6,6,6,6,6,6,6,6,6,6,6,7,7,7,7,7,7,7,7,7,7,7,7,7,7,7,7,7,7,7,7,7,7,7,7,7,7,7,7,7,7,7,7,7,7,7,7,7,7,7,7,7,7,7,7,7,7,7,7,7,7,7,7,7,7,7,7,7,7,7,7,7,7,7,7,8,8,8,8,8,8,8,8,8,8,8,8,8,8,8,8,8,8,8,8,8,8,8,8,8,8,8,8,8,8,8,8,8,8,8,8,8,8,8,8,8,8,8,8,8,8,8,8,8,8,8,8,8,8,8,8,8,8,8,8,8,8,8,8,8,8,8,8,8,8,8,8,8,8,8,8,8,8,8,8,8,8,8,8,8,8,8,8,8,8,8,8,8,8,8,8,8,8,8,8,8,8,8,8,8,8,8,8,8,8,8,8,8,8,8,8,8,8,8,8,8,8,8,8,8,8,8,8]
def SM:List UInt8:=[48,48,48,49,48,50,48,51,48,52,48,53,48,54,48,55,48,56,48,57,49,48,49,49,49,50,49,51,49,52,49,53,49,54,49,55,49,56,49,57,50,48,50,49,50,50,50,51,50,52,50,53,50,54,50,55,50,56,50,57,51,48,51,49,51,50,51,51,51,52,51,53,51,54,51,55,51,56,51,57,52,48,52,49,52,50,52,51,52,52,52,53,52,54,52,55,52,56,52,57,53,48,53,49,53,50,53,51,53,52,53,53,53,54,53,55,53,56,53,57,54,48,54,49,54,50,54,51,54,52,54,53,54,54,54,55,54,56,54,57,55,48,55,49,55,50,55,51,55,52,55,53,55,54,55,55,55,56,55,57,56,48,56,49,56,50,56,51,56,52,56,53,56,54,56,55,56,56,56,57,57,48,57,49,57,50,57,51,57,52,57,53,57,54,57,55,57,56,57,57]
theorem Mg:((List.range 256).all fun x=>(x == 0 && (LT8.getD x 0).toNat == 0) || (Nat.ble 1 (LT8.getD x 0).toNat && Nat.ble (LT8.getD x 0).toNat 8 && Nat.ble (2 ^ ((LT8.getD x 0).toNat - 1)) x && Nat.blt x (2 ^ (LT8.getD x 0).toNat)))=true:=by kernel_rfl
theorem P3 {x:Nat}(h:x < 256)(h0:0 < x): ∃ t,(LT8.getD x 0).toNat=t+1/\t < 8/\2 ^ t<=x/\x < 2 ^ (t+1):=by
 have h1:=all_eq_true.1 Mg x (List.mem_range.2 h);have h2:(x == 0)=false:=by simp; omega
 rw [h2] at h1;simp only [Bool.false_and,Bool.false_or,and_eq_true,Nat.ble_eq,Nat.blt_eq] at h1;obtain ⟨⟨⟨a,b⟩,c⟩,d⟩:=h1;refine ⟨(LT8.getD x 0).toNat - 1,by omega,by omega,c,?_⟩;rwa [Nat.sub_add_cancel a]
theorem uy {x:Int}(h0:0<=x)(h1:x < 256):aQ SS.P 9 (aa LT8) (.int .u8 (wrap .u8 x))=some (.int .u8 ((LT8.getD x.toNat 0).toNat:Nat)):=by
 rw [lU h0 h1];exact jh (by kernel_rfl) LT8 .u8 h0 (by show x < ((256:Nat):Int); omega)
theorem OE:((List.range 100).all fun x=>Nat.beq (SM.getD (2*x) 0).toNat (48+x / 10) && Nat.beq (SM.getD (2*x+1) 0).toNat (48+x % 10))=true:=by kernel_rfl
theorem J3 {x:Nat}(h:x < 100):(SM.getD (2*x) 0).toNat=48+x / 10/\(SM.getD (2*x+1) 0).toNat=48+x % 10:=by
 have h1:=all_eq_true.1 OE x (List.mem_range.2 h);simp only [and_eq_true,Nat.beq_eq] at h1;exact h1
theorem IV {u:Nat}(h0:0 < u)(h1:u < 4294967296)(h:Heap):FW SS 93 [.int .u64 (u:Int)] h (fun v h'=>h'=h/\ ∃ n:Nat,v = .int .i64 (n+1:Nat)/\n < 32/\2 ^ n<=u/\u < 2 ^ (n+1)):=by
 refine JX _ h _ (ae (fun g=>absurd (dT g) (by omega)) fun _=>ae (fun g=> ?_) (fun g=> ?_))
 ·have g:=dT g;refine ⟨_,EF (s:=16) (by omega) (by omega),ae (fun g1=> ?_) (fun g1=> ?_)⟩
  ·have g1:=dT g1;refine ⟨_,EF (s:=8) (by omega) (by omega),_,uy (by omega) (by omega),rfl,?_⟩;obtain ⟨t,e,h2,h3,h4⟩:=P3 (x:=((u:Int) / 2 ^ 16 / 2 ^ 8).toNat) (by omega) (by omega);rw [e];refine ⟨t+24,?_,by omega,?_,?_⟩
   ·refine congrArg (Value.int .i64) ?_;simp only [wrap_i64]; omega
   ·rw [pow_add]; omega
   ·rw [show t+24+1=(t+1)+24 by omega,pow_add]; omega
  ·have g1:=dF g1;refine ⟨_,uy (by omega) (by omega),rfl,?_⟩;obtain ⟨t,e,h2,h3,h4⟩:=P3 (x:=((u:Int) / 2 ^ 16).toNat) (by omega) (by omega);rw [e];refine ⟨t+16,?_,by omega,?_,?_⟩
   ·refine congrArg (Value.int .i64) ?_;simp only [wrap_i64]; omega
   ·rw [pow_add]; omega
   ·rw [show t+16+1=(t+1)+16 by omega,pow_add]; omega
 ·have g:=dF g;refine ae (fun g1=> ?_) (fun g1=> ?_)
  ·have g1:=dT g1;refine ⟨_,EF (s:=8) (by omega) (by omega),_,uy (by omega) (by omega),rfl,?_⟩;obtain ⟨t,e,h2,h3,h4⟩:=P3 (x:=((u:Int) / 2 ^ 8).toNat) (by omega) (by omega);rw [e];refine ⟨t+8,?_,by omega,?_,?_⟩
   ·refine congrArg (Value.int .i64) ?_;simp only [wrap_i64]; omega
   ·rw [pow_add]; omega
   ·rw [show t+8+1=(t+1)+8 by omega,pow_add]; omega
  ·have g1:=dF g1;refine ⟨_,uy (by omega) (by omega),rfl,?_⟩;obtain ⟨t,e,h2,h3,h4⟩:=P3 (x:=((u:Int)).toNat) (by omega) (by omega);rw [e];refine ⟨t,?_,by omega,by omega,by omega⟩;refine congrArg (Value.int .i64) ?_;simp only [wrap_i64]; omega
def Ba:List Value:=(List.range 20).map fun i=>uv (10 ^ i)
def Tab (h:Heap):Prop:= ∃ t wr,h.get 1=some (.cells Ba t 0 wr)
theorem Tab.ok {h h':Heap}(t:Tab h)(o:Ok h h'):Tab h':=let ⟨k,wr,e⟩:=t; ⟨k,wr,o.ext _ _ e⟩
theorem PV:SS.P.underlying 185=some (.array 20 103):=by kernel_rfl
theorem OS {h:Heap}(t:Tab h){i:Int}(h0:0<=i)(h1:i < 20):ag SS.P 185 (.pointer (some ⟨1,0,none⟩)) (.int .i64 i)=some (.pointer (some ⟨1,0+i.toNat*1,none⟩))/\ah SS.P 103 h (.pointer (some ⟨1,0+i.toNat*1,none⟩))=some (.int .u64 ((10 ^ i.toNat:Nat):Int)):=by
 obtain ⟨_,wr,e⟩:=t;constructor
 ·unfold ag;rw [PV]; dsimp only;rw [uD]; dsimp only;rw [if_pos ⟨h0,h1⟩,bC,zero_add]
 ·unfold ah;rw [ET]; dsimp only;rw [e]; dsimp only;rw [FL];simp only [Bool.false_eq_true,if_false];unfold Ba;rw [zero_add,mul_one,getElem?_map,List.getElem?_range (by omega)]; rfl
theorem z8 {u:Nat}(h0:100<=u)(h1:u < 1000000000){h:Heap}(t:Tab h):FW SS 191 [.int .u64 (u:Int)] h (fun v h'=>h'=h/\ ∃ n:Nat,v = .int .i64 (n+1:Nat)/\n < 9/\10 ^ n<=u/\u < 10 ^ (n+1)):=by
 refine zT _ h _ ((IV (by omega) (by omega) h).mono ?_);rintro _ g ⟨e0,n,rfl,h2,h3,h4⟩;have t:=e0 ▸ t;refine ⟨_,rfl,An _ _ _ ⟨_,LI (s:=18) ?_ (by omega),_,rfl,?_⟩⟩
 ·rw [am (by omega) (by omega)]; omega
 rw [am (by omega) (by omega)];have h5:n < 30:=by
  rcases lt_or_ge n 30 with h | h
  ·exact h
  ·have:2 ^ 30<=2 ^ n:=pow_le_pow_right (by omega) h;omega
 have h6:6<=n:=by
  rcases lt_or_ge n 6 with h | h
  ·have:2 ^ (n+1)<=2 ^ 6:=pow_le_pow_right (by omega) h;omega
  ·exact h
 obtain ⟨g1,g2⟩:=OS t (i:=((n+1:Nat):Int)*78913 / 2 ^ 18) (by omega) (by omega);refine ⟨_,g1,_,g2,JM _ _ _ ?_⟩;have key: ∀ q:Nat,2<=q->q<=9->10 ^ (q - 1)<=u->u < 10 ^ (q+1)->((n+1:Nat):Int)*78913 / 2 ^ 18=(q:Int)->au (decide (((u:Nat):Int)>=((10 ^ (((n+1:Nat):Int)*78913 / 2 ^ 18).toNat:Nat):Int))) (∃ n11:Int,Value.int .i64 1 = .int .i64 n11/\(g=h/\ ∃ m:Nat,Value.int .i64 (wrap .i64 (((n+1:Nat):Int)*78913 / 2 ^ 18+n11)) = .int .i64 (m+1:Nat)/\m < 9/\10 ^ m<=u/\u < 10 ^ (m+1))) (∃ n11:Int,Value.int .i64 0 = .int .i64 n11/\(g=h/\ ∃ m:Nat,Value.int .i64 (wrap .i64 (((n+1:Nat):Int)*78913 / 2 ^ 18+n11)) = .int .i64 (m+1:Nat)/\m < 9/\10 ^ m<=u/\u < 10 ^ (m+1))):=by
  intro q q1 q2 q3 q4 q5;rw [q5,toNat_natCast];refine ae (fun g5=> ?_) (fun g5=> ?_)
  ·have g5:=dT g5;refine ⟨1,rfl,e0,q,?_,?_,by omega,q4⟩
   ·rw [am (by omega) (by omega)]; rfl
   ·rcases lt_or_ge q 9 with h | h
    ·exact h
    ·have:q=9:=by omega
     subst this;omega
  ·have g5:=dF g5;refine ⟨0,rfl,e0,q - 1,?_,by omega,q3,by rw [Nat.sub_add_cancel (by omega)]; omega⟩;rw [am (by omega) (by omega),Nat.sub_add_cancel (by omega),Int.add_zero]
 have hn:n=6\/n=7\/n=8\/n=9\/n=10\/n=11\/n=12\/n=13\/n=14\/n=15\/n=16\/n=17\/n=18\/n=19\/n=20\/n=21\/n=22\/n=23\/n=24\/n=25\/n=26\/n=27\/n=28\/n=29:=by omega
 rcases hn with rfl | rfl | rfl | rfl | rfl | rfl | rfl | rfl | rfl | rfl | rfl | rfl | rfl | rfl | rfl | rfl | rfl | rfl | rfl | rfl | rfl | rfl | rfl | rfl
 all_goals first
  | exact key 2 (by omega) (by omega) (by omega) (by omega) (by omega)
  | exact key 3 (by omega) (by omega) (by omega) (by omega) (by omega)
  | exact key 4 (by omega) (by omega) (by omega) (by omega) (by omega)
  | exact key 5 (by omega) (by omega) (by omega) (by omega) (by omega)
  | exact key 6 (by omega) (by omega) (by omega) (by omega) (by omega)
  | exact key 7 (by omega) (by omega) (by omega) (by omega) (by omega)
  | exact key 8 (by omega) (by omega) (by omega) (by omega) (by omega)
  | exact key 9 (by omega) (by omega) (by omega) (by omega) (by omega)
theorem IL {u:Nat}(h1:u < 100)(h:Heap):FW SS 190 [.int .i64 (u:Int)] h (fun v h'=>h'=h/\v=aa (Num.toDec u)):=by
 refine I5 _ h _ (ae (fun g=> ?_) (fun g=> ?_))
 ·have g:=dT g;rw [am (by omega) (by omega)];refine ⟨_,ji (by kernel_rfl) _ (a:=u) (b:=u+1) rfl rfl (by omega) (by simp; omega),rfl,?_⟩;rw [Num.toDec_lt (by omega)];have:u=0\/u=1\/u=2\/u=3\/u=4\/u=5\/u=6\/u=7\/u=8\/u=9:=by omega
  rcases this with rfl | rfl | rfl | rfl | rfl | rfl | rfl | rfl | rfl | rfl <;> rfl
 ·have g:=dF g;rw [am (n:=(u:Int)*2) (by omega) (by omega),am (by omega) (by omega)];refine ⟨_,ji (l:=SM) (by kernel_rfl) (a:=2*u) (b:=2*u+2) (by show some _=some _; congr 1; omega) (by show some _=some _; congr 1; omega) (by omega) (by show _<=200; omega),rfl,?_⟩;have hb:=J3 h1;rw [Num.toDec_ge (by omega),Num.toDec_lt (by omega),show 2*u+2 - 2*u=2 by omega];have hl:SM.length=200:=rfl;rw [drop_eq_getElem_cons (by omega),drop_eq_getElem_cons (by omega)];have e1:SM[2*u]'(by omega)=Num.dig (u / 10):=by
   apply UInt8.toNat_inj.1;have:=hb.1;rw [gD,gE (by omega)] at this;rw [show (SM[2*u]'(by omega)).toNat=_ from this];unfold Num.dig;rw [UInt8.toNat_ofNat',mod_eq_of_lt (by omega)]
  have e2:SM[2*u+1]'(by omega)=Num.dig (u % 10):=by
   apply UInt8.toNat_inj.1;have:=hb.2;rw [gD,gE (by omega)] at this;rw [show (SM[2*u+1]'(by omega)).toNat=_ from this];unfold Num.dig;rw [UInt8.toNat_ofNat',mod_eq_of_lt (a:=48+u % 10) (b:=2 ^ 8) (by omega)]
  rw [e1,e2]; rfl
section
theorem ii {n:Int}(h1:0<=n)(h2:n < 4294967296):wrap .u32 n=n:=by
 simp only [wrap,IntKind.bits,IntKind.signed,Bool.false_and,Bool.false_eq_true,if_false]; omega
theorem vX {P:Program}{t:TypeId}{a:Int}{b:Nat}(h0:0<=a)(h1:a < 4294967296)(hb:0 < b):al P .quo t (.int .u32 a) (.int .u32 (b:Int))=some (.int .u32 (a / (b:Int))):=by
 rw [Ao P t .u32 _ _ (by omega),Int.tdiv_eq_ediv_of_nonneg h0,ii (Int.ediv_nonneg h0 (by omega)) (Int.lt_of_le_of_lt (Int.ediv_le_self _ h0) h1)]
theorem Nh {d:Nat}(h:d < 10):mD (Num.dig d) = .int .u8 (48+(d:Int)):=by
 unfold mD Num.dig;rw [UInt8.toNat_ofNat',mod_eq_of_lt (a:=48+d) (b:=2 ^ 8) (by omega)]; rfl
structure FB (h0:Heap)(k n u j w:Nat)(h:Heap):Prop where
 blk: ∃ cs,h.get k=some (.cells cs 177 0 true)/\cs.length=24/\(cs.drop j).take (n - j)=(Num.wid (n - j) u).map mD
 hw:w=u / 10 ^ (n - j)
 lt:w < 10 ^ j
 jn:j<=n
 n24:n<=9
 ok:OkX h0 k h
section
variable {h0 h:Heap} {k n u j w:Nat}
theorem FB.room (f:FB h0 k n u j w h)(r:Nat):FB h0 k n u j w (room h r):=⟨f.blk,f.hw,f.lt,f.jn,f.n24,f.ok.room r⟩
theorem FB.step (f:FB h0 k n u (j+1) w h){c:Nat}{x i:Int}(hx:x=48+(w:Int) % 10)(hi:i=(j:Int)):
  ∃ p:Addr,ag SS.P 157 (.slice (some ⟨k,0,none⟩) n c) (.int .i64 i)=some (.pointer (some p))/\ ∃ u':Upd,ai SS.P 5 (.pointer (some p)) (.int .u8 x) h=some (undef,u')/\FB h0 k n u j (w / 10) (u'.app h):=by
 subst hx hi;obtain ⟨cs,h1,h2,h3⟩:=f.blk;have hjn:=f.jn;have hn:=f.n24;refine ⟨⟨k,0+j,none⟩,?_,.set k (.cells (cs.set j (mD (Num.dig (w % 10)))) 177 0 true),?_,?_⟩
 ·unfold ag;rw [tf]; dsimp only;rw [OZ]; dsimp only;rw [if_pos ⟨by omega,by omega⟩,mul_one,bC,toNat_natCast]
 ·rw [show (48+((w:Nat):Int) % 10)=48+((w % 10:Nat):Int) by omega,<-Nh (mod_lt _ (by omega))];show (if an SS.P 5=some 1 then (storeAt h k (0+j) [mD (Num.dig (w % 10))]).map fun u=>(undef,u) else none)=_;rw [if_pos OZ];unfold storeAt;rw [h1]; dsimp only;rw [zero_add,if_pos ⟨by simp; omega,rfl⟩];have e:cs.take j++[mD (Num.dig (w % 10))]++cs.drop (j+[mD (Num.dig (w % 10))].length)=cs.set j (mD (Num.dig (w % 10))):=by
   rw [List.set_eq_take_append_cons_drop,if_pos (by omega),append_assoc]; rfl
  rw [e]; rfl
 ·have hk:=f.ok.wf _ _ h1;have hnj:n - j=(n - (j+1))+1:=by omega
  refine ⟨⟨cs.set j (mD (Num.dig (w % 10))),?_,by rw [length_set]; exact h2,?_⟩,?_,?_,by omega,hn,f.ok.set hk _⟩
  ·show (h.set k _).get k=_;rw [Heap.get_set,if_pos rfl]
  ·rw [drop_eq_getElem_cons (by simp only [length_set]; omega),hnj,List.take_succ_cons,List.getElem_set_self,List.drop_set_of_lt (by omega),h3,Num.wid_cons,List.map_cons,<-f.hw]
  ·rw [hnj,pow_succ,<-Nat.div_div_eq_div_mul,<-f.hw]
  ·have:=f.lt;rw [pow_succ] at this;omega
theorem Pc {y:Int}{x:Nat}(hy:y=(x:Int))(hx:x < 100):aQ SS.P 9 (aa SM) (.int .u32 (wrap .u32 (wrap .u32 (y*2)+1)))=some (.int .u8 (48+(x:Int) % 10)):=by
 rw [ii (n:=y*2) (by omega) (by omega),ii (by omega) (by omega),jh (by kernel_rfl) SM .u32 (by omega) (by show _ < ((200:Nat):Int); omega),show (y*2+1).toNat=2*x+1 by omega,(J3 hx).2]; rfl
theorem O7 {y:Int}{x:Nat}(hy:y=(x:Int))(hx:x < 100):aQ SS.P 9 (aa SM) (.int .u32 (wrap .u32 (y*2)))=some (.int .u8 (48+(x:Int) / 10)):=by
 rw [ii (n:=y*2) (by omega) (by omega),jh (by kernel_rfl) SM .u32 (by omega) (by show _ < ((200:Nat):Int); omega),show (y*2).toNat=2*x by omega,(J3 hx).1]; rfl
theorem FB.pair (f:FB h0 k n u (j+2) w h){c:Nat}{y i1 i2:Int}(hy:y=(w:Int) % 100)(h1:i1=(j:Int)+1)(h2:i2=(j:Int)):
  ∃ n9:Int,aQ SS.P 9 (aa SM) (.int .u32 (wrap .u32 (wrap .u32 (y*2)+1)))=some (.int .u8 n9)/\
  ∃ n10:Int,aQ SS.P 9 (aa SM) (.int .u32 (wrap .u32 (y*2)))=some (.int .u8 n10)/\
  ∃ p11:Addr,ag SS.P 157 (.slice (some ⟨k,0,none⟩) n c) (.int .i64 i1)=some (.pointer (some p11))/\
  ∃ u12:Upd,ai SS.P 5 (.pointer (some p11)) (.int .u8 n9) (Go.Ab.room h 15)=some (undef,u12)/\
  ∃ p13:Addr,ag SS.P 157 (.slice (some ⟨k,0,none⟩) n c) (.int .i64 i2)=some (.pointer (some p13))/\
  ∃ u14:Upd,ai SS.P 5 (.pointer (some p13)) (.int .u8 n10) (u12.app (Go.Ab.room h 15))=some (undef,u14)/\
  FB h0 k n u j (w / 100) (u14.app (u12.app (Go.Ab.room h 15))):=by
 have e:y=((w % 100:Nat):Int):=by omega
 obtain ⟨p,a1,u1,a2,f1⟩:=(f.room 15).step (j:=j+1) (c:=c) (x:=48+((w % 100:Nat):Int) % 10) (i:=i1) (by omega) (by omega);obtain ⟨q,a3,u2,a4,f2⟩:=f1.step (c:=c) (x:=48+((w % 100:Nat):Int) / 10) (i:=i2) (by omega) (by omega);refine ⟨_,Pc e (by omega),_,O7 e (by omega),p,a1,u1,a2,q,a3,u2,a4,?_⟩;rw [Nat.div_div_eq_div_mul] at f2;exact f2
end
theorem KE {h0 h:Heap}{k n c u:Nat}(f:FB h0 k n u n u h):FW SS 192 [.slice (some ⟨k,0,none⟩) n c,.int .u64 (u:Int)] h (fun v h'=>v = .tuple ⟨[]⟩/\ ∃ w,FB h0 k n u 0 w h'):=by
 have hn:=f.n24;have L:=sh (some ⟨k,0,none⟩) n c (u:Int) (fun mz i v g=> ∃ w:Nat,v=(w:Int)/\mz=i/\FB h0 k n u i w g) (fun v h'=>v = .tuple ⟨[]⟩/\ ∃ w,FB h0 k n u 0 w h') (by
  intro mz i v; intros; rename_i g hi;obtain ⟨w,rfl,rfl,f⟩:=hi;have hjn:=f.jn;have hw:w < 1000000000:=lt_of_lt_of_le f.lt (show 10 ^ mz<=10 ^ 9 from pow_le_pow_right (by omega) (by omega));refine ae (fun g1=> ?_) (fun g1=> ?_)
  ·have g1:=dT g1;obtain ⟨j,rfl⟩: ∃ j,mz=j+8:=⟨mz - 8,by omega⟩
   refine ⟨_,dy (b:=100000000) (by omega) (by omega),_,jT (b:=100000000) (by omega) (by omega) (by omega),?_⟩;rw [ii (n:=((w:Nat):Int) % ((100000000:Nat):Int)) (by omega) (by omega)];refine ⟨_,vX (b:=10000) (by omega) (by omega) (by omega),_,dy (b:=10000) (by omega) (by omega),_,vX (b:=100) (by omega) (by omega) (by omega),_,dy (b:=100) (by omega) (by omega),_,vX (b:=100) (by omega) (by omega) (by omega),_,dy (b:=100) (by omega) (by omega),?_⟩;obtain ⟨a1,b1,a2,b2,a3,b3,a4,b4,a5,b5,a6,b6,f1⟩:=FB.pair (j:=j+6) (c:=c) (y:=((w:Nat):Int) % ((100000000:Nat):Int) % ((10000:Nat):Int) % ((100:Nat):Int)) (i1:=wrap .i64 (((j+8:Nat):Int) - 1)) (i2:=wrap .i64 (((j+8:Nat):Int) - 2)) f (by omega) (by rw [am (by omega) (by omega)]; omega) (by rw [am (by omega) (by omega)]; omega);refine ⟨a1,b1,a2,b2,a3,b3,a4,b4,a5,b5,a6,b6,?_⟩;obtain ⟨a1,b1,a2,b2,a3,b3,a4,b4,a5,b5,a6,b6,f2⟩:=FB.pair (j:=j+4) (c:=c) (y:=((w:Nat):Int) % ((100000000:Nat):Int) % ((10000:Nat):Int) / ((100:Nat):Int)) (i1:=wrap .i64 (((j+8:Nat):Int) - 3)) (i2:=wrap .i64 (((j+8:Nat):Int) - 4)) f1 (by omega) (by rw [am (by omega) (by omega)]; omega) (by rw [am (by omega) (by omega)]; omega);refine ⟨a1,b1,a2,b2,a3,b3,a4,b4,a5,b5,a6,b6,?_⟩;obtain ⟨a1,b1,a2,b2,a3,b3,a4,b4,a5,b5,a6,b6,f3⟩:=FB.pair (j:=j+2) (c:=c) (y:=((w:Nat):Int) % ((100000000:Nat):Int) / ((10000:Nat):Int) % ((100:Nat):Int)) (i1:=wrap .i64 (((j+8:Nat):Int) - 5)) (i2:=wrap .i64 (((j+8:Nat):Int) - 6)) f2 (by omega) (by rw [am (by omega) (by omega)]; omega) (by rw [am (by omega) (by omega)]; omega);refine ⟨a1,b1,a2,b2,a3,b3,a4,b4,a5,b5,a6,b6,?_⟩;obtain ⟨a1,b1,a2,b2,a3,b3,a4,b4,a5,b5,a6,b6,f4⟩:=FB.pair (j:=j) (c:=c) (y:=((w:Nat):Int) % ((100000000:Nat):Int) / ((10000:Nat):Int) / ((100:Nat):Int)) (i1:=wrap .i64 (((j+8:Nat):Int) - 7)) (i2:=wrap .i64 (((j+8:Nat):Int) - 8)) f3 (by omega) (by rw [am (by omega) (by omega)]; omega) (by rw [am (by omega) (by omega)]; omega);refine ⟨a1,b1,a2,b2,a3,b3,a4,b4,a5,b5,a6,b6,?_⟩;have e1:wrap .i64 (((j+8:Nat):Int) - 8)=(j:Int):=by rw [am (by omega) (by omega)]; omega
   rw [e1];exact gO j (by omega) ⟨w / 100000000,by omega,rfl,by
    have:=f4;simp only [Nat.div_div_eq_div_mul] at this;exact this⟩
  ·have g1:=dF g1;have hw8:w < 100000000:=lt_of_lt_of_le f.lt (show 10 ^ mz<=10 ^ 8 from pow_le_pow_right (by omega) (by omega));rw [ii (n:=((w:Nat):Int)) (by omega) (by omega)];refine ae (fun g2=> ?_) (fun g2=> ?_)
   ·have g2:=dT g2;obtain ⟨j,rfl⟩: ∃ j,mz=j+4:=⟨mz - 4,by omega⟩
    refine ⟨_,dy (b:=10000) (by omega) (by omega),_,vX (b:=10000) (by omega) (by omega) (by omega),_,vX (b:=100) (by omega) (by omega) (by omega),_,dy (b:=100) (by omega) (by omega),?_⟩;obtain ⟨a1,b1,a2,b2,a3,b3,a4,b4,a5,b5,a6,b6,f1⟩:=FB.pair (j:=j+2) (c:=c) (y:=((w:Nat):Int) % ((10000:Nat):Int) % ((100:Nat):Int)) (i1:=wrap .i64 (((j+4:Nat):Int) - 1)) (i2:=wrap .i64 (((j+4:Nat):Int) - 2)) f (by omega) (by rw [am (by omega) (by omega)]; omega) (by rw [am (by omega) (by omega)]; omega);refine ⟨a1,b1,a2,b2,a3,b3,a4,b4,a5,b5,a6,b6,?_⟩;obtain ⟨a1,b1,a2,b2,a3,b3,a4,b4,a5,b5,a6,b6,f2⟩:=FB.pair (j:=j) (c:=c) (y:=((w:Nat):Int) % ((10000:Nat):Int) / ((100:Nat):Int)) (i1:=wrap .i64 (((j+4:Nat):Int) - 3)) (i2:=wrap .i64 (((j+4:Nat):Int) - 4)) f1 (by omega) (by rw [am (by omega) (by omega)]; omega) (by rw [am (by omega) (by omega)]; omega);refine ⟨a1,b1,a2,b2,a3,b3,a4,b4,a5,b5,a6,b6,?_⟩;have e1:wrap .i64 (((j+4:Nat):Int) - 4)=(j:Int):=by rw [am (by omega) (by omega)]; omega
    rw [e1];have hwj:=f2.lt;refine ae (fun g3=> ?_) (fun g3=> ?_)
    ·have g3:=dT g3;obtain ⟨l,rfl⟩: ∃ l,j=l+2:=⟨j - 2,by omega⟩
     refine ⟨_,dy (b:=100) (by omega) (by omega),_,vX (b:=100) (by omega) (by omega) (by omega),?_⟩;obtain ⟨a1,b1,a2,b2,a3,b3,a4,b4,a5,b5,a6,b6,f3⟩:=FB.pair (j:=l) (c:=c) (y:=((w:Nat):Int) / ((10000:Nat):Int) % ((100:Nat):Int)) (i1:=wrap .i64 (((l+2:Nat):Int) - 1)) (i2:=wrap .i64 (((l+2:Nat):Int) - 2)) f2 (by omega) (by rw [am (by omega) (by omega)]; omega) (by rw [am (by omega) (by omega)]; omega);refine ⟨a1,b1,a2,b2,a3,b3,a4,b4,a5,b5,a6,b6,?_⟩;have e2:wrap .i64 (((l+2:Nat):Int) - 2)=(l:Int):=by rw [am (by omega) (by omega)]; omega
     rw [e2];refine ae (fun g4=> ?_) (fun g4=> ?_)
     ·have g4:=dT g4;obtain rfl:l=1:=by omega
      have hwl:=f3.lt;rw [ii (n:=48+_) (by omega) (by omega),lU (n:=48+_) (by omega) (by omega)];obtain ⟨p,b1,u1,b2,f4⟩:=f3.step (c:=c) (x:=48+((w:Nat):Int) / ((10000:Nat):Int) / ((100:Nat):Int)) (i:=0) (by omega) rfl;exact ⟨p,b1,u1,b2,rfl,_,f4⟩
     ·have g4:=dF g4;obtain rfl:l=0:=by omega
      exact ⟨rfl,_,f3⟩
    ·have g3:=dF g3;refine ae (fun g4=> ?_) (fun g4=> ?_)
     ·have g4:=dT g4;obtain rfl:j=1:=by omega
      rw [ii (n:=48+_) (by omega) (by omega),lU (n:=48+_) (by omega) (by omega)];obtain ⟨p,b1,u1,b2,f4⟩:=f2.step (c:=c) (x:=48+((w:Nat):Int) / ((10000:Nat):Int)) (i:=0) (by omega) rfl;exact ⟨p,b1,u1,b2,rfl,_,f4⟩
     ·have g4:=dF g4;obtain rfl:j=0:=by omega
      exact ⟨rfl,_,f2⟩
   ·have g2:=dF g2;refine ae (fun g3=> ?_) (fun g3=> ?_)
    ·have g3:=dT g3;obtain ⟨l,rfl⟩: ∃ l,mz=l+2:=⟨mz - 2,by omega⟩
     refine ⟨_,dy (b:=100) (by omega) (by omega),_,vX (b:=100) (by omega) (by omega) (by omega),?_⟩;obtain ⟨a1,b1,a2,b2,a3,b3,a4,b4,a5,b5,a6,b6,f3⟩:=FB.pair (j:=l) (c:=c) (y:=((w:Nat):Int) % ((100:Nat):Int)) (i1:=wrap .i64 (((l+2:Nat):Int) - 1)) (i2:=wrap .i64 (((l+2:Nat):Int) - 2)) f (by omega) (by rw [am (by omega) (by omega)]; omega) (by rw [am (by omega) (by omega)]; omega);refine ⟨a1,b1,a2,b2,a3,b3,a4,b4,a5,b5,a6,b6,?_⟩;have e2:wrap .i64 (((l+2:Nat):Int) - 2)=(l:Int):=by rw [am (by omega) (by omega)]; omega
     rw [e2];have hwl:=f3.lt;refine ae (fun g4=> ?_) (fun g4=> ?_)
     ·have g4:=dT g4;obtain rfl:l=1:=by omega
      rw [ii (n:=48+_) (by omega) (by omega),lU (n:=48+_) (by omega) (by omega)];obtain ⟨p,b1,u1,b2,f4⟩:=f3.step (c:=c) (x:=48+((w:Nat):Int) / ((100:Nat):Int)) (i:=0) (by omega) rfl;exact ⟨p,b1,u1,b2,rfl,_,f4⟩
     ·have g4:=dF g4;obtain rfl:l=0:=by omega
      exact ⟨rfl,_,f3⟩
    ·have g3:=dF g3;have hwl:=f.lt;refine ae (fun g4=> ?_) (fun g4=> ?_)
     ·have g4:=dT g4;obtain rfl:mz=1:=by omega
      rw [ii (n:=48+_) (by omega) (by omega),lU (n:=48+_) (by omega) (by omega)];obtain ⟨p,b1,u1,b2,f4⟩:=f.step (c:=c) (x:=48+((w:Nat):Int)) (i:=0) (by omega) rfl;exact ⟨p,b1,u1,b2,rfl,_,f4⟩
     ·have g4:=dF g4;obtain rfl:mz=0:=by omega
      exact ⟨rfl,_,f⟩)
 exact Jf _ n c _ h _ (L n ⟨u,rfl,rfl,f⟩)
end
noncomputable def JN:Blk:= .cells (List.replicate 24 (.int .u8 0)) 177 0 true
theorem PZ:aF SS.P 177=some (JN,iy):=by kernel_rfl
theorem Pl:SS.P.underlying 177=some (.array 24 5):=by kernel_rfl
theorem xu {h:Heap}{k:Nat}{cs:List Value}{wr:Bool}(hk:h.get k=some (.cells cs 177 0 wr)){n:Nat}(hn:n<=24):aH SS.P 177 (.pointer (some ⟨k,0,none⟩)) none (some (.int .i64 (n:Int))) none h=some (.slice (some ⟨k,0,none⟩) n 24):=by
 unfold aH;dsimp only;rw [Pl];dsimp only [bI];rw [OZ,hk];show (if 0<=((0:Nat):Int)/\((0:Nat):Int)<=(n:Int)/\(n:Int)<=((24:Nat):Int)/\24 < bi then some (Value.slice (some ⟨k,0+((0:Nat):Int).toNat*1,none⟩) ((n:Int) - ((0:Nat):Int)).toNat (24 - ((0:Nat):Int).toNat)) else none)=_;have hO:24 < bi:=by unfold bi; omega
 rw [if_pos ⟨by omega,by omega,by omega,hO⟩];have e2:((n:Int) - ((0:Nat):Int)).toNat=n:=by omega
 have e0:((0:Nat):Int).toNat=0:=rfl;rw [e2,e0]
theorem D5 {h:Heap}{k off n c:Nat}{cs:List Value}{e sz:Nat}{wr:Bool}(hk:h.get k=some (.cells cs e sz wr)){l:List UInt8}(hl:(cs.drop off).take n=l.map mD)(hn:l.length=n):tH SS.P 157 9 (.slice (some ⟨k,off,none⟩) n c) h=some (aa l):=by
 unfold tH aV;dsimp only;rw [tf,show SS.P.underlying 9=some .string by kernel_rfl];dsimp only;rw [show SS.P.underlying 5=some (.int .u8) by kernel_rfl];dsimp only;rw [hk];dsimp only;rw [hl,if_pos (by rw [lM]; exact hn),jV]; rfl
theorem Be {u:Nat}(h1:u < 1000000000){h:Heap}(t:Tab h)(w:Wf h):FW SS 180 [.int .u64 (u:Int),.int .i64 10] h (fun v h'=>v=aa (Num.toDec u)/\Ok h h'):=by
 refine AI _ h _ (ae (fun _=> ?_) (fun g=>by simp at g));refine ae (fun g=> ?_) (fun g=> ?_)
 ·have g:=dT g;rw [am (by omega) (by omega)];refine (IL (by omega) h).mono ?_;rintro _ _ ⟨rfl,rfl⟩;exact ⟨_,rfl,rfl,Ok.refl w⟩
 ·have g:=dF g;have ok:=(Ok.refl w).push JN;refine ⟨_,PZ,(z8 (by omega) h1 (t.ok ok)).mono ?_⟩;rintro _ h6 ⟨e6,n,rfl,g1,g2,g3⟩;subst e6;have hk:(h.push JN).get h.next=some (.cells (List.replicate 24 (.int .u8 0)) 177 0 true):=by rw [Heap.get_push,if_pos rfl]; rfl
  refine ⟨_,rfl,_,_,_,xu hk (n:=n+1) (by omega),?_⟩;have f:FB (h.push JN) h.next (n+1) u (n+1) u (h.push JN):=⟨⟨_,hk,by simp,by simp [Num.wid]⟩,by simp,g3,le_refl _,by omega,OkX.refl ok.wf⟩
  refine (KE f).mono ?_;rintro _ h12 ⟨rfl,x,f2⟩;obtain ⟨cs,b1,b2,b3⟩:=f2.blk;rw [drop_zero,sub_zero] at b3;refine ⟨rfl,_,_,_,xu b1 (n:=n+1) (by omega),Num.toDec u,D5 b1 ?_ ?_,rfl,?_⟩
  ·rw [drop_zero,b3,Num.wid_dec g3 (.inr g2)]
  ·rw [<-Num.wid_dec g3 (.inr g2),Num.wid_len]
  ·refine ⟨f2.ok.wf,fun j B hj=>f2.ok.keep j B (fun e=>by have:=w _ _ hj; omega) (ok.ext _ _ hj),le_trans ok.nx f2.ok.nx⟩
theorem EM {u:Nat}(h1:u < 1000000000){h:Heap}(t:Tab h)(w:Wf h):FW SS 170 [.int .u64 (u:Int),.int .i64 10] h (fun v h'=>v=aa (Num.toDec u)/\Ok h h'):=by
 refine Em _ h _ ((Be h1 t w).mono ?_);rintro _ h2 ⟨rfl,o⟩;exact ⟨_,rfl,rfl,o⟩
noncomputable def bCopyCheck_F:FD:=bF Tryz.f181 []
theorem xp (p:Addr)(h:Heap)(Q:VH)(hx:xP (af SS.P 163 (.pointer (some p)) 0) fun p1=>xO (ah SS.P 161 h (.pointer (some p1))) fun a2=>xB (al SS.P .eql 161 (.pointer a2) (.pointer none)) fun b3=>au b3 (xG (bP SS.P eK (ev SS.gl (uN [(.pointer (some p)),undef,(.pointer (some p)),(.pointer (some p)),(.pointer (some p1)),(.pointer a2),(.bool b3),(.pointer (some p)),(.pointer (some p))] 11)) (FF (cZ [1,0] bCopyCheck_F.body) 2) h) h fun v4 u5 g6=>FW SS 194 [v4] g6 fun v7 h8=>yV v7 fun v9=>xG (bP SS.P eK (ev SS.gl (uN [(.pointer (some p)),undef,(.pointer (some p)),(.pointer (some p)),(.pointer (some p1)),(.pointer a2),(.bool b3),(.pointer (some p)),(.pointer (some p)),v4,v9] 9)) (FF (cZ [1,0] bCopyCheck_F.body) 4) h8) h8 fun v10 u11 g12=>xP (af SS.P 163 (.pointer (some p)) 0) fun p13=>xU (ai SS.P 161 (.pointer (some p13)) v10 g12) g12 fun u14 g15=>Q (.tuple ⟨[]⟩) g15) (xP (af SS.P 163 (.pointer (some p)) 0) fun p16=>xO (ah SS.P 161 h (.pointer (some p16))) fun a17=>xB (al SS.P .neq 161 (.pointer a17) (.pointer (some p))) fun b18=>au b18 (False) (Q (.tuple ⟨[]⟩) h))):FW SS 181 [(.pointer (some p))] h Q:=bG bCopyCheck_F Tryz.func181 (aj hx)
noncomputable def J7:FD:=bF Tryz.f171 []
theorem GI (p:Addr)(l:LB)(h:Heap)(Q:VH)(hx:FW SS 181 [(.pointer (some p))] h fun v1 h2=>v1=(.tuple ⟨[]⟩)/\xP (af SS.P 163 (.pointer (some p)) 1) fun p3=>xL (ah SS.P 157 h2 (.pointer (some p3))) fun a4 n5 c6=>xE (ay SS.P 157 9 (.slice a4 n5 c6) (aa l) h2) h2 fun a7 n8 c9 u10 g11=>xP (af SS.P 163 (.pointer (some p)) 1) fun p12=>xU (ai SS.P 157 (.pointer (some p12)) (.slice a7 n8 c9) g11) g11 fun u13 g14=>Q (.tuple ⟨[(.int .i64 ((l:LB).length:Int)),.nilIface]⟩) g14):FW SS 171 [(.pointer (some p)),(aa l)] h Q:=bG J7 Tryz.func171 (aj hx)
noncomputable def bString_F:FD:=bF Tryz.f173 []
theorem Eu (p:Addr)(h:Heap)(Q:VH)(hx:xP (af SS.P 163 (.pointer (some p)) 1) fun p1=>xL (ah SS.P 157 (room h 12) (.pointer (some p1))) fun a2 n3 c4=>xG (bP SS.P eK (ev SS.gl (uN [(.pointer (some p)),undef,(aa []),(.pointer (some p)),(.pointer (some p)),(.pointer (some p1)),(.slice a2 n3 c4)] 7)) (FF (cZ [1,0] bString_F.body) 4) (room h 12)) (room h 12) fun v5 u6 g7=>xP (af SS.P 163 (.pointer (some p)) 1) fun p8=>xL (ah SS.P 157 g7 (.pointer (some p8))) fun a9 n10 c11=>xG (bP SS.P eK (ev SS.gl [(.pointer (some p)),undef,(aa []),(.pointer (some p)),(.pointer (some p)),(.pointer (some p1)),(.slice a2 n3 c4),v5,(.pointer (some p)),(.pointer (some p)),(.pointer (some p8)),(.slice a9 n10 c11),(iA n10),undef]) (FF (cZ [1,0] bString_F.body) 10) g7) g7 fun v12 u13 g14=>(ah SS.P 157 (room h 12) (.pointer (some p8))=some (.slice a9 n10 c11)/\dY 4 (.slice a9 n10 c11) (.slice a9 n10 c11)=true)/\(Cz SS.P 157 (.slice a9 n10 c11) (room h 12)=some (iA n10)/\dY 4 (iA n10) (iA n10)=true)/\Q v12 g14):FW SS 173 [(.pointer (some p))] h Q:=bG bString_F Tryz.func173 (aj hx)
noncomputable def Mk:FD:=bF Tryz.f108 []
theorem IY (x y:Int)(h:Heap)(Q:VH)(hx:xI .u64 (al SS.P .shr 103 (.int .u64 x) (.int .u64 32)) fun n1=>xI .u64 (al SS.P .shr 103 (.int .u64 y) (.int .u64 32)) fun n2=>xI .u64 (al SS.P .shr 103 (.int .u64 (wrap .u64 (wrap .u64 ((BitVec.ofInt (IntKind.bits .u64) x &&& BitVec.ofInt (IntKind.bits .u64) 4294967295).toNat:Int)*wrap .u64 ((BitVec.ofInt (IntKind.bits .u64) y &&& BitVec.ofInt (IntKind.bits .u64) 4294967295).toNat:Int)))) (.int .u64 32)) fun n3=>xI .u64 (al SS.P .shr 103 (.int .u64 (wrap .u64 (wrap .u64 (n1*wrap .u64 ((BitVec.ofInt (IntKind.bits .u64) y &&& BitVec.ofInt (IntKind.bits .u64) 4294967295).toNat:Int))+n3))) (.int .u64 32)) fun n4=>xI .u64 (al SS.P .shr 103 (.int .u64 (wrap .u64 (wrap .u64 ((BitVec.ofInt (IntKind.bits .u64) (wrap .u64 (wrap .u64 (n1*wrap .u64 ((BitVec.ofInt (IntKind.bits .u64) y &&& BitVec.ofInt (IntKind.bits .u64) 4294967295).toNat:Int))+n3)) &&& BitVec.ofInt (IntKind.bits .u64) 4294967295).toNat:Int)+wrap .u64 (wrap .u64 ((BitVec.ofInt (IntKind.bits .u64) x &&& BitVec.ofInt (IntKind.bits .u64) 4294967295).toNat:Int)*n2)))) (.int .u64 32)) fun n5=>Q (.tuple ⟨[(.int .u64 (wrap .u64 (wrap .u64 (wrap .u64 (n1*n2)+n4)+n5))),(.int .u64 (wrap .u64 (x*y)))]⟩) h):FW SS 108 [(.int .u64 x),(.int .u64 y)] h Q:=bG Mk Tryz.func108 (aj hx)
end Go.Proofs.YtoabjjimjldcfaaGreatDoor
end
section
namespace Go.Ab
open Go
def OwnF (h0 h:Heap)(e:TypeId)(v:Value)(vs:List Value):Prop:=
 (v = .slice none 0 0/\vs=[])\/ ∃ k,v = .slice (some ⟨k,0,none⟩) vs.length (bi+vs.length)/\h0.next<=k/\h.get k=some (.cells vs e 1 true)
theorem OwnF.addL {P:Program}{t e t':TypeId}{i:TypeInfo}(hU:P.underlying t=some (.slice e))(hE:cL P e=some i)(hs:i.size=1)(hT:bW P t'=true){h0 h:Heap}(w0:Wf h0)(a:Ok h0 h){v:Value}{vs:List Value}(o:OwnF h0 h e v vs){x:Value}{news:List Value}(hsrc:cg h 1 x=some (news,news.length))(hx:news.all bw=true)(hl:(vs.length+news.length)*i.bytes<=70368744177664)(hl2:vs.length+news.length<=1099511627776):
  ∃ (b:Option Addr)(n c:Nat)(u:Upd),ay P t t' v x h=some (.slice b n c,u)/\OwnF h0 (u.app h) e (.slice b n c) (vs++news)/\Ok h0 (u.app h)/\(∀ j B,h.get j=some B->(∀ o n c,v≠ .slice (some ⟨j,o,none⟩) n c)->(u.app h).get j=some B):=by
 have oldn: ∀ j B,h.get j=some B->j < h.next:=fun j B hj=>a.wf _ _ hj;unfold ay;rw [hU]; dsimp only;rw [hE]; dsimp only;rw [if_pos hT,hs,hsrc]; dsimp only;rw [if_pos ⟨hx,by omega⟩];rcases o with ⟨rfl,rfl⟩ | ⟨k,rfl,h2,h3⟩
 ·show ∃ b n c u,(if news.length=0 then some (Value.slice none 0 0,Upd.no) else if news.length*i.bytes<=70368744177664/\news.length<=1099511627776 then some (Value.slice (some ⟨h.next,0,none⟩) news.length (bi+news.length),Upd.push (.cells news e 1 true)) else none)=_/\_;by_cases hz:news.length=0
  ·have hn:news=[]:=eq_nil_of_length_eq_zero hz;subst hn;exact ⟨_,_,_,_,rfl,.inl ⟨rfl,rfl⟩,a,fun j B hj _=>hj⟩
  ·rw [if_neg hz,if_pos (by simpa using And.intro hl hl2)];refine ⟨_,_,_,_,rfl,.inr ⟨h.next,by simp,a.nx,?_⟩,a.push _,fun j B hj _=> ?_⟩
   ·show (h.push _).get h.next=_;rw [Heap.get_push,if_pos rfl]; rfl
   ·show (h.push _).get j=_;rw [Heap.get_push,if_neg (fun e=>by have:=oldn _ _ hj; omega)];exact hj
 ·dsimp only;have hkn:=a.wf _ _ h3;by_cases hz:news.length=0
  ·have hn:news=[]:=eq_nil_of_length_eq_zero hz;subst hn;refine ⟨_,_,_,_,rfl,.inr ⟨k,by simp,h2,by rw [List.append_nil]; exact h3⟩,a,fun j B hj _=>hj⟩
  ·rw [if_neg hz,mul_one];have hcap:aK (bi+vs.length)=vs.length:=by unfold aK; rw [if_pos (by omega)]; omega
   rw [hcap,if_neg (by omega)];unfold fT;rw [if_pos ⟨hl,hl2⟩,h3];dsimp only;rw [mul_one,if_pos ⟨rfl,rfl,by simp⟩,if_neg (by omega),if_pos ⟨rfl,by omega⟩];refine ⟨_,_,_,_,rfl,.inr ⟨h.next,by simp,a.nx,?_⟩,?_,fun j B hj hv=> ?_⟩
   ·show ((h.del k).push _).get h.next=_;rw [Heap.get_push,if_pos (show h.next=(h.del k).next from rfl),drop_zero,take_length]
   ·refine ⟨?_,fun j C hj=> ?_,le_trans a.nx (Nat.le_succ _)⟩
    ·refine Heap.wf_push (fun j C hj=> ?_) _;rw [Heap.get_del] at hj;split at hj
     ·cases hj
     ·exact a.wf _ _ hj
    ·have h7:=a.ext _ _ hj;have h8:=a.wf _ _ h7;show ((h.del k).push _).get j=_;rw [Heap.get_push,if_neg (fun e=>by have:j=h.next:=e; omega),Heap.get_del,if_neg (fun e=>by have:=w0 _ _ hj; omega)];exact h7
   ·show ((h.del k).push _).get j=_;rw [Heap.get_push,if_neg (fun e=>by have:=oldn _ _ hj; have:j=h.next:=e; omega),Heap.get_del,if_neg (fun e=>hv 0 _ _ (by rw [e]))];exact hj
theorem uh {S:Sx}{f:FuncId}{p:oz}{args:List Value}{h h':Heap}{v:Value}{Q:VH}(hY:Nat.ble YB f=false)(hp:S.pr f=some p)(hr: ∀ cf,p cf args h=some (v,h'))(hq:Q v h'):FW S f args h Q:=by
 refine ⟨v,h',⟨1,fun n hn=> ?_⟩,hq⟩;obtain ⟨m,rfl⟩: ∃ m,n=m+1:=⟨n - 1,by omega⟩
 have hY': ¬ YB<=f:=fun h=>by rw [<-Nat.ble_eq] at h; rw [hY] at h; cases h
 unfold aX;rw [if_neg hY',hp];exact hr _
end Go.Ab
end
