/- Laws and walks that the proof leans on (part 3): P1; W2; NumDiv; NumDiv2; NumDigit; NumEach and others. No condition. -/
import Derived.Test.YtoabjjimjldcfaaGreatDoorPart2
open List (all_eq_true append_assoc drop_eq_getElem_cons drop_of_length_le drop_zero getElem?_eq_none getElem_mem length_append length_drop length_pos_iff length_replicate length_set length_take map_append map_take mem_of_mem_take nil_append take_append_drop take_length take_of_length_le take_take take_zero)
open Nat (add_comm add_mul add_sub_cancel add_zero div_eq_of_lt div_lt_of_lt_mul eq_zero_or_pos le_refl le_trans lt_of_lt_of_le lt_or_ge min_eq_left mod_eq_of_lt mod_lt mul_add mul_assoc mul_comm mul_le_mul mul_le_mul_left mul_le_mul_right mul_one mul_pos mul_succ mul_zero one_mul pow_add pow_le_pow_right pow_succ sub_self succ_mul zero_add zero_le)
open Int (natCast_ediv natCast_emod toNat_natCast)
open Go.IntKind (wrap wrap_i64)
section
set_option linter.unusedVariables false
set_option maxRecDepth 100000
namespace Go.Proofs.YtoabjjimjldcfaaGreatDoor
open Go Go.Ab
theorem Nc:SS.P.underlying 9=some .string:=by kernel_rfl
theorem JB (l:List UInt8){h:Heap}{i:Int}(h0:0<=i)(h1:i < l.length):be SS.P 9 (aa l) (.int .i64 i)=some (.int .u8 ((l.getD i.toNat 0).toNat:Nat)):=md Nc l _ h0 h1
theorem Lf {c:UInt8}(h1: ¬ (c.toNat:Int) < 48)(h2: ¬ (c.toNat:Int) > 57):Num.isDig c=true:=by
 unfold Num.isDig; simp; omega
theorem F6 {c:UInt8}(h:(c.toNat:Int) < 48\/(c.toNat:Int) > 57):Num.isDig c=false:=by
 unfold Num.isDig; simp; omega
theorem tV {l:List UInt8}{i:Nat}(hi:i < l.length)(h1:(l.take i).all Num.isDig=true)(h2:Num.isDig (l.getD i 0)=true):(l.take (i+1)).all Num.isDig=true:=by
 rw [List.take_succ_eq_append_getElem hi,List.all_append,h1];rw [gD,gE hi] at h2;simpa using h2
theorem uJ {l:List UInt8}{i:Nat}(hi:i < l.length)(h2:Num.isDig (l.getD i 0)=false):l.all Num.isDig=false:=by
 rw [gD,gE hi] at h2;exact List.all_eq_false.2 ⟨l[i],getElem_mem hi,by simpa using h2⟩
theorem AI {l:List UInt8}(h:1000 < l.length):Num.valid l=false:=by
 unfold Num.valid;rw [decide_eq_false (by omega: ¬ l.length<=1000)]; simp
theorem Bi {l:List UInt8}(h:1 < l.length)(h0:l.getD 0 0=48):Num.valid l=false:=by
 unfold Num.valid
 cases l with
 | nil=>rfl
 | cons a l=>
  have h0:a=48:=h0;subst h0;rw [decide_eq_true h]; simp
theorem vj {l:List UInt8}(h0:l≠[])(h1:l.length<=1000)(h2:1 < l.length->l.getD 0 0≠48):Num.valid l=l.all Num.isDig:=by
 unfold Num.valid
 cases l with
 | nil=>exact absurd rfl h0
 | cons a l=>
  rw [decide_eq_true h1];by_cases h:1 < (a::l).length
  ·have h3:a≠48:=h2 h;rw [decide_eq_true h]; simp [h3]
  ·rw [decide_eq_false h]; simp
theorem u8_eq {c:UInt8}:((c.toNat:Int) == 48)=true↔c=48:=by
 rw [beq_iff_eq];refine ⟨fun h=>UInt8.toNat_inj.1 ?_,fun h=>by rw [h]; rfl⟩;have h48:(48:UInt8).toNat=48:=rfl;omega
theorem bT (l:List UInt8)(h:Heap):FW SS 139 [aa l] h (fun v h'=>v = .bool (Num.valid l)/\h'=h):=by
 by_cases hlen:l.length<=1000
 case neg=>
  refine qQ l h _ (ae (fun h1=> ?_) (fun h1=>ae (fun h2=> ?_) (fun h2=> ?_)))
  ·obtain rfl:l=[]:=by simpa using h1
   exact ⟨rfl,rfl⟩
  ·exact ⟨by rw [AI (by omega)],rfl⟩
  ·have:=dF h2; omega
 have L:=fun (hv:Num.valid l=l.all Num.isDig)=>mI l (fun mz i g=>0<=i/\i<=l.length/\mz=l.length - i.toNat/\(l.take i.toNat).all Num.isDig=true/\g=h) (fun v h'=>v = .bool (Num.valid l)/\h'=h) (by
  intro mz i; intros; rename_i g hi;obtain ⟨h1,h2,h3,h4,rfl⟩:=hi;refine ae (fun h5=> ?_) (fun h5=> ?_)
  ·have h5:=dT h5;have hin:i.toNat < l.length:=by omega
   refine ⟨_,JB (h:=g) l h1 h5,ae (fun h6=> ?_) (fun h6=>⟨_,JB (h:=g) l h1 h5,ae (fun h7=> ?_) (fun h7=> ?_)⟩)⟩
   ·exact ⟨by rw [hv,uJ hin (F6 (.inl (dT h6)))],rfl⟩
   ·exact ⟨by rw [hv,uJ hin (F6 (.inr (dT h7)))],rfl⟩
   ·have hw:wrap .i64 (i+1)=i+1:=aq (by omega) (by omega);refine cA (mz - 1) (by omega) ?_;rw [hw];refine ⟨by omega,by omega,by omega,?_,rfl⟩;rw [show (i+1).toNat=i.toNat+1 by omega];exact tV hin h4 (Lf (dF h6) (dF h7))
  ·have h5:=dF h5;refine ⟨?_,rfl⟩;rw [hv,<-h4,take_of_length_le (by omega)])
 refine qQ l h _ (ae (fun h1=> ?_) (fun h1=>ae (fun h2=> ?_) (fun h2=> ?_)))
 ·obtain rfl:l=[]:=by simpa using h1
  exact ⟨rfl,rfl⟩
 ·have:=dT h2; omega
 ·have h1:l≠[]:=by simpa using h1
  have hpos:=length_pos_iff.2 h1;refine ae (fun h3=>⟨_,JB (h:=h) l (by omega) (by omega),ae (fun h4=> ?_) (fun h4=> ?_)⟩) (fun h3=> ?_)
  ·exact ⟨by rw [Bi (by have:=dT h3; omega) (u8_eq.1 h4)],rfl⟩
  ·exact L (vj h1 hlen fun _ e=>by have h4:(((l.getD 0 0).toNat:Int) == 48)=false:=h4; rw [u8_eq.2 e] at h4; cases h4) l.length ⟨by omega,by omega,by simp,by simp,rfl⟩
  ·exact L (vj h1 hlen fun e=>by have:=dF h3; omega) l.length ⟨by omega,by omega,by simp,by simp,rfl⟩
theorem LH {a b:Nat}(h:((a:Int) != b)=true):a≠b:=by
 intro e; subst e; simp at h
theorem K2 {a b:Nat}(h:((a:Int) != b)=false):a=b:=by
 by_cases e:a=b
 ·exact e
 ·exfalso;have:(a:Int)≠b:=by omega
  simp [this] at h
def iv (d:Nat):Value:= .int .i64 (d:Int)
theorem kJ:SS.P.underlying 48=some (.slice 3):=by kernel_rfl
theorem IJ:al SS.P 3=some 1:=by kernel_rfl
theorem HO:SS.P.underlying 3=some (.int .i64):=by kernel_rfl
theorem Ij:Go.Ab.isAgg SS.P 3=false:=by kernel_rfl
noncomputable def re3:TypeInfo:=(dA SS.P 3).getD default
theorem K0:dA SS.P 3=some re3:=by kernel_rfl
theorem Hw:re3.size=1:=by kernel_rfl
theorem EA:re3.bytes=8:=by kernel_rfl
end Go.Proofs.YtoabjjimjldcfaaGreatDoor
end
section
namespace Go.Num
def subL (B q:Nat)(u v:List Nat):Nat->Nat->Nat->Nat->List Nat×Nat×Nat
 | _,0,b,c=>([],b,c)
 | i,k+1,b,c=>
  let s:=mH B q (u.getD i 0) (v.getD i 0) b c
  let r:=subL B q u v (i+1) k s.2.1 s.2.2
  (s.1::r.1,r.2)
theorem subL_len (B q:Nat)(u v:List Nat): ∀ k i b c,(subL B q u v i k b c).1.length=k
 | 0,_,_,_=>rfl
 | k+1,i,b,c=>by simp [subL,subL_len B q u v k]
theorem subL_lt {B q:Nat}(hB:1 < B)(u v:List Nat): ∀ k i b c,∀ d∈(subL B q u v i k b c).1,d < B
 | 0,_,_,_=>by simp [subL]
 | k+1,i,b,c=>by
  intro d hd;simp only [subL] at hd;rcases List.mem_cons.1 hd with rfl | hd
  ·exact mod_lt _ (by omega)
  ·exact subL_lt hB u v k _ _ _ d hd
theorem nW (b:Nat)(x:List Nat)(i k:Nat):bv b ((x.drop i).take (k+1))=x.getD i 0+b*bv b ((x.drop (i+1)).take k):=by
 rcases lt_or_ge i x.length with h | h
 ·rw [drop_eq_getElem_cons h,List.take_succ_cons,bv,gD,gE h]; rfl
 ·rw [List.drop_eq_nil_of_le h,List.drop_eq_nil_of_le (by omega),gD,getElem?_eq_none h]; simp [bv]
theorem vS {B q:Nat}(hB:1 < B){u v:List Nat}(hu: ∀ d∈u,d < B): ∀ k i b c,b<=1->
  bv B ((u.drop i).take k)+B ^ k*((subL B q u v i k b c).2.1+(subL B q u v i k b c).2.2)=bv B (subL B q u v i k b c).1+q*bv B ((v.drop i).take k)+(b+c)/\(subL B q u v i k b c).2.1<=1
 | 0,i,b,c,hb=>by simp [subL,bv,hb]
 | k+1,i,b,c,hb=>by
  obtain ⟨s1,s2,s3⟩:=Hr (B:=B) (q:=q) (u:=u.getD i 0) (v:=v.getD i 0) (borrow:=b) (carry:=c) hB (getD_lt (by omega) hu i) hb;obtain ⟨ih,ih2⟩:=vS hB (q:=q) (v:=v) hu k (i+1) _ (mH B q (u.getD i 0) (v.getD i 0) b c).2.2 s2;rw [nW,nW];simp only [subL,bv];refine ⟨?_,ih2⟩;have e:=congrArg (B * ·) ih;simp only [mul_add] at e s1 ⊢;have e1: ∀ z,B ^ (k+1)*z=B*(B ^ k*z):=fun z=>by rw [pow_succ,mul_comm (B ^ k),mul_assoc]
  have e2:q*(B*bv B ((v.drop (i+1)).take k))=B*(q*bv B ((v.drop (i+1)).take k)):=by rw [Nat.mul_left_comm]
  rw [e1,e1,e2];omega
theorem um {B:Nat}{l:List Nat}{n:Nat}(h:l.length=n):bv B (l.take n)=bv B l:=by rw [take_of_length_le (by omega)]
theorem ES {B q:Nat}(hB:1 < B){u v:List Nat}{n:Nat}(hu: ∀ d∈u,d < B)(hul:u.length=n+1)(hvl:v.length=n):
  (subL B q u v 0 (n+1) 0 0).2.2=0->((subL B q u v 0 (n+1) 0 0).2.1=0->bv B u=bv B (subL B q u v 0 (n+1) 0 0).1+q*bv B v)/\
  ((subL B q u v 0 (n+1) 0 0).2.1≠0->bv B u+B ^ (n+1)=bv B (subL B q u v 0 (n+1) 0 0).1+q*bv B v/\bv B u < q*bv B v):=by
 intro hc;obtain ⟨e,hb⟩:=vS hB (q:=q) (v:=v) hu (n+1) 0 0 0 (by omega);rw [drop_zero,drop_zero,um hul,take_of_length_le (by omega:v.length<=n+1),hc] at e;refine ⟨fun h0=> ?_,fun h0=> ?_⟩
 ·rw [h0] at e; omega
 ·have hb1:(subL B q u v 0 (n+1) 0 0).2.1=1:=by omega
  rw [hb1,mul_one] at e;have hlt:=bv_lt (subL_lt (q:=q) hB u v (n+1) 0 0 0);rw [subL_len] at hlt;omega
theorem sX {B q:Nat}(hB:1 < B){u v:List Nat}(hq:q < B)(hv: ∀ d∈v,d < B): ∀ k i b c,c < B->v.length<=i+k->0 < k->v.length < i+k->(subL B q u v i k b c).2.2=0
 | 0,_,_,_,_,_,h,_=>by omega
 | 1,i,b,c,hc,_,_,hl=>by
  simp only [subL,mH];have:v.getD i 0=0:=by rw [gD,getElem?_eq_none (by omega)]; rfl
  rw [this,mul_zero,zero_add];exact div_eq_of_lt hc
 | k+2,i,b,c,hc,_,_,hl=>by
  have h2:=getD_lt (by omega) hv i;simp only [subL];have:=sX hB (u:=u) hq hv (k+1) (i+1) (mH B q (u.getD i 0) (v.getD i 0) b c).2.1 (mH B q (u.getD i 0) (v.getD i 0) b c).2.2 (by
   show (q*v.getD i 0+c) / B < B;refine div_lt_of_lt_mul ?_;have h3:q*v.getD i 0<=(B - 1)*(B - 1):=mul_le_mul (by omega) (by omega);have h4:(B - 1)*(B - 1)+(B - 1)=(B - 1)*B:=by rw [<-mul_succ]; congr 1; omega
   have h5:(B - 1)*B+B=B*B:=by rw [<-succ_mul]; congr 1; omega
   omega) (by omega) (by omega) (by omega)
  simpa only [subL] using this
theorem GV {B:Nat}(hB:1 < B){u v:List Nat}{n Q V U:Nat}(hu: ∀ d∈u,d < B)(hv: ∀ d∈v,d < B)(hul:u.length=n+1)(hvl:v.length=n)(h1:U+B ^ (n+1)=bv B u+(Q+1)*V)(h2:U < (Q+1)*V)(h3:(Q+1)*V < U+V)(hV:V=bv B v):
  bv B ((eachF (plusF B) u v 0 (n+1) 0))+Q*V=U:=by
 have hs:=plus_bv hB (x:=u) (y:=v) hu hv (n+2) 0 0 (by omega) (by omega) (by omega) (by omega);simp only [drop_zero,add_zero] at hs;have split: ∀ k i c,eachF (plusF B) u v i (k+1) c=eachF (plusF B) u v i k c++(eachF (plusF B) u v i (k+1) c).drop k:=by
  intro k
  induction k with
  | zero=>intro i c; simp [eachF]
  | succ k ih=>
   intro i c;have:=ih (i+1) (plusF B (u.getD i 0) (v.getD i 0) c).2;show _::eachF (plusF B) u v (i+1) (k+1) _=(_::eachF (plusF B) u v (i+1) k _)++(_::eachF (plusF B) u v (i+1) (k+1) _).drop (k+1);rw [List.cons_append,List.drop_succ_cons];exact congrArg _ this
 rw [split (n+1) 0 0,eD,eachF_len] at hs;have hlt:=bv_lt (eachF_lt (b:=B) (F:=plusF B) (fun p q c=>mod_lt _ (by omega)) u v (n+1) 0 0);rw [eachF_len] at hlt;rw [add_mul,one_mul] at h1 h2 h3;have hul':=bv_lt hu;rw [hul] at hul';have hvl':=bv_lt hv;rw [hvl] at hvl';have hpow:B ^ n<=B ^ (n+1):=pow_le_pow_right (by omega) (by omega);have key:bv B ((eachF (plusF B) u v 0 (n+1+1) 0).drop (n+1))=1:=by
  generalize bv B ((eachF (plusF B) u v 0 (n+1+1) 0).drop (n+1))=z at hs;rcases Nat.lt_trichotomy z 1 with hz | hz | hz
  ·have:z=0:=by omega
   subst this;rw [mul_zero] at hs;omega
  ·exact hz
  ·have:=mul_le_mul_left (B ^ (n+1)) hz;rw [mul_succ,mul_one] at this;omega
 rw [key,mul_one] at hs;omega
theorem Ck {B:Nat}: ∀ (l:List Nat)(i d:Nat),i < l.length->bv B (l.set i d)+B ^ i*l.getD i 0=bv B l+B ^ i*d
 | [],i,d,h=>by simp at h
 | a::l,0,d,_=>by simp [bv]; omega
 | a::l,i+1,d,h=>by
  have ih:=congrArg (B * ·) (Ck (B:=B) l i d (by simpa using h));simp only [List.set_cons_succ,bv,List.getD_cons_succ,pow_succ,mul_add] at ih ⊢;have e: ∀ z,B ^ i*B*z=B*(B ^ i*z):=fun z=>by rw [mul_comm (B ^ i),mul_assoc]
  rw [e,e]; omega
theorem Gu {B:Nat}{l:List Nat}(h: ∀ d∈l,d < B){i d:Nat}(hd:d < B): ∀ x∈l.set i d,x < B:=fun x hx=>by
 rcases List.mem_or_eq_of_mem_set hx with h1 | h1
 ·exact h x h1
 ·rw [h1]; exact hd
theorem kD {B n:Nat}(_:1 < B): ∀ {l:List Nat},bv B l < B ^ n->bv B (l.drop n)=0
 | l,h=>by
  rcases lt_or_ge n l.length with h1 | h1
  ·have e:=eD B (l.take n) (l.drop n);rw [take_append_drop,length_take,min_eq_left (by omega)] at e;rcases eq_zero_or_pos (bv B (l.drop n)) with h2 | h2
   ·exact h2
   ·have:=mul_le_mul_left (B ^ n) h2;rw [mul_one] at this;omega
  ·rw [List.drop_eq_nil_of_le h1]; rfl
theorem sj (B:Nat)(l:List Nat)(n:Nat):bv B l=bv B (l.take n)+B ^ (min n l.length)*bv B (l.drop n):=by
 have e:=eD B (l.take n) (l.drop n);rwa [take_append_drop,length_take] at e
structure DivInv (B n V XK:Nat)(u q:List Nat)(j:Nat):Prop where
 ul: ∀ d∈u,d < B
 ql: ∀ d∈q,d < B
 len:u.length=q.length+n
 jle:j<=q.length
 lo:bv B (u.drop j) < V
 eq:XK=bv B u+V*bv B q
 qz: ∀ i,i < j->q.getD i 0=0
theorem DivInv.window {B n V XK:Nat}{u q:List Nat}{at':Nat}(hB:1 < B)(hV:V<=B ^ n)(h:DivInv B n V XK u q (at'+1)):
  bv B ((u.drop at').take (n+1))=bv B (u.drop at')/\bv B ((u.drop at').take (n+1)) < B*V/\((u.drop at').take (n+1)).length=n+1:=by
 have hl:=h.len;have hj:=h.jle;have h1:bv B (u.drop at')=u.getD at' 0+B*bv B (u.drop (at'+1)):=bv_drop B u at';have h2:=getD_lt (by omega) h.ul at';have h3:=h.lo;have h4:bv B (u.drop at') < B*V:=by
  have:=mul_le_mul_left B (Nat.succ_le_of_lt h3);rw [mul_succ] at this;omega
 have h5:bv B ((u.drop at').drop (n+1))=0:=by
  refine kD hB (lt_of_lt_of_le h4 ?_);rw [pow_succ,mul_comm];exact mul_le_mul_right B hV
 have h6:=sj B (u.drop at') (n+1);rw [h5,mul_zero,add_zero] at h6;refine ⟨h6.symm,by omega,?_⟩;rw [length_take,length_drop]; omega
theorem DivInv.step {B n V XK:Nat}{u q w:List Nat}{at' d:Nat}(hB:1 < B)(hV:V<=B ^ n)(h:DivInv B n V XK u q (at'+1))(hw: ∀ x∈w,x < B)(hwl:w.length=n+1)(hd:d < B)
  (he:bv B ((u.drop at').take (n+1))=bv B w+d*V) (hlt:bv B w < V):DivInv B n V XK (u.take at'++w++u.drop (at'+(n+1))) (q.set at' d) at':=by
 have hl:=h.len;have hj:=h.jle;obtain ⟨w1,w2,w3⟩:=h.window hB hV;have hz:bv B (u.drop (at'+(n+1)))=0:=by
  rw [<-List.drop_drop];refine kD hB ?_;rw [<-w1];refine lt_of_lt_of_le w2 ?_;rw [pow_succ,mul_comm];exact mul_le_mul_right B hV
 have htl:(u.take at').length=at':=by rw [length_take]; omega
 have hdrop:(u.take at'++w++u.drop (at'+(n+1))).drop at'=w++u.drop (at'+(n+1)):=by
  rw [append_assoc,List.drop_append_of_le_length (by omega),drop_of_length_le (by omega),nil_append]
 refine ⟨?_,Gu h.ql hd,?_,by rw [length_set]; omega,?_,?_,?_⟩
 ·intro x hx;simp only [List.mem_append] at hx;rcases hx with (hx | hx) | hx
  ·exact h.ul x (mem_of_mem_take hx)
  ·exact hw x hx
  ·exact h.ul x (List.mem_of_mem_drop hx)
 ·rw [length_append,length_append,htl,hwl,length_drop,length_set]; omega
 ·rw [hdrop,eD,hz,mul_zero,add_zero]; exact hlt
 ·have e1:=eD B (u.take at') (u.drop at');rw [take_append_drop,htl,<-w1,he] at e1;have e2:bv B (u.take at'++w++u.drop (at'+(n+1)))=bv B (u.take at')+B ^ at'*bv B w:=by
   rw [append_assoc,eD,eD,hz,htl,mul_zero,add_zero]
  have e3:=Ck (B:=B) q at' d (by omega);rw [h.qz at' (by omega),mul_zero,add_zero] at e3;rw [h.eq,e1,e2,e3,mul_add,mul_add];have e4:B ^ at'*(d*V)=V*(B ^ at'*d):=by rw [mul_comm V,mul_assoc]
  omega
 ·intro i hi;have:=h.qz i (by omega);rw [gD] at this ⊢;rw [List.getElem?_set_ne (by omega)];exact this
theorem DivInv.done {B n V XK:Nat}{u q:List Nat}(h:DivInv B n V XK u q 0):bv B q=XK / V/\bv B u=XK % V:=by
 have h1:=h.lo;rw [drop_zero] at h1;rw [h.eq];constructor
 ·rw [add_comm,Nat.mul_add_div (by omega),div_eq_of_lt h1]; rfl
 ·rw [add_comm,Nat.mul_add_mod,mod_eq_of_lt h1]
theorem DivInv.start {B n m k X Y:Nat}{u:List Nat}(hB:1 < B)(hu: ∀ d∈u,d < B)(hul:u.length=m+1)(hn:n<=m)(hX:X < B ^ m)(hY:B ^ (n - 1)<=Y)(hn0:0 < n)(hk:0 < k)(he:bv B u=X*k):DivInv B n (Y*k) (X*k) u (List.replicate (m+1 - n) 0) (m+1 - n):=by
 refine ⟨hu,fun d hd=>by rw [(List.mem_replicate.1 hd).2]; omega,by rw [length_replicate]; omega,by rw [length_replicate]; exact le_refl _,?_,?_,fun i hi=> ?_⟩
 ·have h1:=sj B u (m+1 - n);rw [he,min_eq_left (by omega)] at h1;rcases lt_or_ge (bv B (u.drop (m+1 - n))) (Y*k) with h2 | h2
  ·exact h2
  ·have h3:=mul_le_mul_left (B ^ (m+1 - n)) h2;have h4:B ^ m*k<=B ^ (m+1 - n)*(Y*k):=by
    have e:B ^ m=B ^ (m+1 - n)*B ^ (n - 1):=by rw [<-pow_add]; congr 1; omega
    rw [e,mul_assoc];exact mul_le_mul_left _ (mul_le_mul_right k hY)
   have h5:X*k < B ^ m*k:=Nat.mul_lt_mul_of_pos_right hX hk;omega
 ·have:bv B (List.replicate (m+1 - n) 0)=0:=by
   induction (m+1 - n) with
   | zero=>rfl
   | succ j ih=>rw [List.replicate_succ,bv,ih]; rfl
  rw [this,he,mul_zero,add_zero]
 ·rw [gD,List.getElem?_replicate]; split <;> rfl
theorem mul_div_mul_k {X Y k:Nat}(hk:0 < k):X*k / (Y*k)=X / Y/\X*k % (Y*k)=X % Y*k:=
 ⟨Nat.mul_div_mul_right X Y hk,Nat.mul_mod_mul_right k X Y⟩
theorem xm {B k left a:Nat}(hk:0 < k)(hl:left < k)(ha:a < B):(left*B+a) / k < B/\(left*B+a) % k < k/\(left*B+a) / k*k+(left*B+a) % k=left*B+a:=by
 refine ⟨div_lt_of_lt_mul ?_,mod_lt _ hk,by rw [mul_comm]; exact Nat.div_add_mod _ _⟩;have:=mul_le_mul_right B (Nat.succ_le_of_lt hl);rw [succ_mul] at this;omega
structure SmallInv (B k R:Nat)(r:List Nat)(j left:Nat):Prop where
 rl: ∀ d∈r,d < B
 jle:j<=r.length
 lt:left < k
 eq:bv B (r.drop j)*k*B ^ j+left*B ^ j+bv B (r.take j)=R
theorem SmallInv.step {B k R:Nat}{r:List Nat}{at' left:Nat}(hk:0 < k)(h:SmallInv B k R r (at'+1) left):SmallInv B k R (r.set at' ((left*B+r.getD at' 0) / k)) at' ((left*B+r.getD at' 0) % k):=by
 have hj:=h.jle;have hB:0 < B:=by
  have:=h.rl (r.getD at' 0) (by
   rw [gD,gE (by omega)];exact getElem_mem _)
  omega
 obtain ⟨s1,s2,s3⟩:=xm (B:=B) hk h.lt (getD_lt hB h.rl at');refine ⟨Gu h.rl s1,by rw [length_set]; omega,s2,?_⟩;rw [List.take_set_of_le (by omega),bv_drop,List.drop_set_of_lt (by omega)];have e1:(r.set at' ((left*B+r.getD at' 0) / k)).getD at' 0=(left*B+r.getD at' 0) / k:=by
  rw [gD,List.getElem?_set_self (by omega)]; rfl
 rw [e1,<-h.eq];have e2:bv B (r.take (at'+1))=bv B (r.take at')+B ^ at'*r.getD at' 0:=by
  rw [List.take_succ_eq_append_getElem (by omega),bv_snoc,length_take,min_eq_left (by omega),gD,gE (by omega)]; rfl
 rw [e2,pow_succ];generalize bv B (r.drop (at'+1))=D at *;generalize r.getD at' 0=a at *;generalize (left*B+a) / k=dq at *;generalize (left*B+a) % k=dr at *;have g1:(dq+B*D)*k*B ^ at'=dq*k*B ^ at'+D*k*(B ^ at'*B):=by
  rw [add_mul,add_mul];congr 1;rw [mul_comm B D,mul_assoc D B k,mul_comm B k,<-mul_assoc,mul_assoc (D*k) B,mul_comm B (B ^ at')]
 have g2:dq*k*B ^ at'+dr*B ^ at'=left*(B ^ at'*B)+a*B ^ at':=by
  rw [<-add_mul,s3,add_mul,mul_assoc,mul_comm B]
 rw [g1,mul_comm (B ^ at') a];omega
theorem SmallInv.done {B k R:Nat}{r:List Nat}{left:Nat}(hk:0 < k)(h:SmallInv B k R r 0 left):bv B r=R / k:=by
 have e:=h.eq;simp only [drop_zero,Nat.pow_zero,mul_one,take_zero,bv,add_zero] at e;rw [<-e,mul_comm,Nat.mul_add_div hk,div_eq_of_lt h.lt]; rfl
section
theorem oj (B:Nat)(l:List Nat)(i:Nat)(h:i<=l.length):bv B l=bv B (l.take i)+B ^ i*bv B (l.drop i):=by
 have:=sj B l i;rwa [min_eq_left h] at this
theorem gN {B:Nat}{l:List Nat}{i:Nat}(h:l.length=i+1):bv B (l.drop i)=l.getD i 0:=by
 rw [bv_drop,List.drop_eq_nil_of_le (by omega)]; rfl
theorem gk {B:Nat}{l:List Nat}{i:Nat}(h:l.length=i+2):bv B (l.drop i)=l.getD (i+1) 0*B+l.getD i 0:=by
 rw [bv_drop,gN (by omega),mul_comm]; omega
theorem mM {B:Nat}{l:List Nat}{i:Nat}(h:l.length=i+3):bv B (l.drop i)=(l.getD (i+2) 0*B+l.getD (i+1) 0)*B+l.getD i 0:=by
 rw [bv_drop,gk (by omega),mul_comm B,show i+1+1=i+2 by omega]; omega
structure Trial (B n:Nat)(u v:List Nat)(q rest:Nat):Prop where
 eq:q*v.getD (n - 1) 0+rest=u.getD n 0*B+u.getD (n - 1) 0
 hi:bv B u < (q+1)*bv B v
section
variable {B n:Nat} {u v:List Nat} {q rest:Nat}
theorem Trial.start (hB:1 < B)(hul:u.length=n+1)(hvl:v.length=n)(hn:0 < n)(hu: ∀ d∈u,d < B)(h0:0 < v.getD (n - 1) 0):Trial B n u v ((u.getD n 0*B+u.getD (n - 1) 0) / v.getD (n - 1) 0) ((u.getD n 0*B+u.getD (n - 1) 0) % v.getD (n - 1) 0):=by
 refine ⟨by rw [mul_comm]; exact Nat.div_add_mod _ _,?_⟩;have h1:=oj B u (n - 1) (by omega);have h2:=oj B v (n - 1) (by omega);have e1:bv B (u.drop (n - 1))=u.getD n 0*B+u.getD (n - 1) 0:=by
  have:=gk (B:=B) (l:=u) (i:=n - 1) (by omega);rwa [show n - 1+1=n by omega] at this
 rw [gN (by omega)] at h2;rw [e1] at h1;rw [h1,h2];have h3:=bv_lt (b:=B) (x:=u.take (n - 1)) (fun d hd=>hu d (mem_of_mem_take hd));rw [length_take,min_eq_left (by omega)] at h3;generalize u.getD n 0*B+u.getD (n - 1) 0=top;generalize v.getD (n - 1) 0=v1 at h0 ⊢;have h4:top < (top / v1+1)*v1:=by
  have:=Nat.div_add_mod top v1;have:=mod_lt top h0;rw [add_mul,one_mul,mul_comm]; omega
 have h5:=mul_le_mul_left (B ^ (n - 1)) (Nat.succ_le_of_lt h4);rw [mul_succ] at h5;rw [mul_add];have e:(top / v1+1)*(B ^ (n - 1)*v1)=B ^ (n - 1)*((top / v1+1)*v1):=Nat.mul_left_comm _ _ _;omega
theorem Trial.lower (hq:bv B u < q*bv B v)(h:Trial B n u v q rest):Trial B n u v (q - 1) (rest+v.getD (n - 1) 0):=by
 have hq0:0 < q:=by
  rcases eq_zero_or_pos q with h1 | h1
  ·subst h1; rw [Nat.zero_mul] at hq; omega
  ·exact h1
 obtain ⟨p,rfl⟩: ∃ p,q=p+1:=⟨q - 1,by omega⟩
 refine ⟨?_,by simpa using hq⟩;have:=h.eq;rw [add_mul,one_mul] at this;rw [add_sub_cancel]; omega
theorem Trial.great (hU:bv B u < B*bv B v)(hq:B<=q):bv B u < q*bv B v:=lt_of_lt_of_le hU (mul_le_mul_right _ hq)
theorem Trial.second (hul:u.length=n+1)(hvl:v.length=n)(hn:1 < n)(hu: ∀ d∈u,d < B)(h:Trial B n u v q rest)(hs:rest*B+u.getD (n - 2) 0 < q*v.getD (n - 2) 0):bv B u < q*bv B v:=by
 have h1:=oj B u (n - 2) (by omega);have h2:=oj B v (n - 2) (by omega);have e1:bv B (u.drop (n - 2))=(u.getD n 0*B+u.getD (n - 1) 0)*B+u.getD (n - 2) 0:=by
  have:=mM (B:=B) (l:=u) (i:=n - 2) (by omega);rwa [show n - 2+1=n - 1 by omega,show n - 2+2=n by omega] at this
 have e2:bv B (v.drop (n - 2))=v.getD (n - 1) 0*B+v.getD (n - 2) 0:=by
  have:=gk (B:=B) (l:=v) (i:=n - 2) (by omega);rwa [show n - 2+1=n - 1 by omega] at this
 rw [e1,add_comm,mul_comm] at h1;rw [e2,add_comm,mul_comm] at h2;have h3:=bv_lt (b:=B) (x:=u.take (n - 2)) (fun d hd=>hu d (mem_of_mem_take hd));rw [length_take,min_eq_left (by omega)] at h3;exact DL h1 h3 h2 h.eq hs
theorem Trial.last (hB:1 < B)(hul:u.length=n+1)(hvl:v.length=n)(hn:0 < n)(hv: ∀ d∈v,d < B)(h0:0 < v.getD (n - 1) 0)(h:Trial B n u v q rest)(hq:q < B)(hs:1 < n->q*v.getD (n - 2) 0<=rest*B+u.getD (n - 2) 0):q*bv B v < bv B u+bv B v:=by
 rcases lt_or_ge 1 n with h1 | h1
 ·have h3:=oj B u (n - 2) (by omega);have h4:=oj B v (n - 2) (by omega);have e1:bv B (u.drop (n - 2))=(u.getD n 0*B+u.getD (n - 1) 0)*B+u.getD (n - 2) 0:=by
   have:=mM (B:=B) (l:=u) (i:=n - 2) (by omega);rwa [show n - 2+1=n - 1 by omega,show n - 2+2=n by omega] at this
  have e2:bv B (v.drop (n - 2))=v.getD (n - 1) 0*B+v.getD (n - 2) 0:=by
   have:=gk (B:=B) (l:=v) (i:=n - 2) (by omega);rwa [show n - 2+1=n - 1 by omega] at this
  rw [e1,add_comm,mul_comm] at h3;rw [e2,add_comm,mul_comm] at h4;have h5:=bv_lt (b:=B) (x:=v.take (n - 2)) (fun d hd=>hv d (mem_of_mem_take hd));rw [length_take,min_eq_left (by omega)] at h5;exact AS h3 h4 h5 h.eq hq h0 (hs h1)
 ·obtain rfl:n=1:=by omega
  have e1:=gk (B:=B) (l:=u) (i:=0) (by omega);have e2:=gN (B:=B) (l:=v) (i:=0) (by omega);rw [drop_zero] at e1 e2;have:=h.eq;rw [e1,e2];simp only [zero_add,sub_self] at this h0 ⊢;omega
theorem trial_broke (hq:q < B){v2 u2:Nat}(hv:v2 < B)(hr:B<=rest):q*v2<=rest*B+u2:=by
 have h1:q*v2<=B*B:=mul_le_mul (by omega) (by omega);have h2:B*B<=rest*B:=mul_le_mul_right B hr;omega
end
theorem digit_done {B q n:Nat}(hB:1 < B){u v:List Nat}(hu: ∀ d∈u,d < B)(hv: ∀ d∈v,d < B)(hul:u.length=n+1)(hvl:v.length=n)(hq:q < B)(h1:bv B u < (q+1)*bv B v)(h2:q*bv B v < bv B u+bv B v):
  (subL B q u v 0 (n+1) 0 0).2.2=0/\
  ((subL B q u v 0 (n+1) 0 0).2.1=0->q=bv B u / bv B v/\bv B (subL B q u v 0 (n+1) 0 0).1=bv B u % bv B v)/\
  ((subL B q u v 0 (n+1) 0 0).2.1≠0->0 < q/\q - 1=bv B u / bv B v/\bv B (eachF (plusF B) (subL B q u v 0 (n+1) 0 0).1 v 0 (n+1) 0)=bv B u % bv B v):=by
 have hc:=sX hB (u:=u) hq hv (n+1) 0 0 0 (by omega) (by omega) (by omega) (by omega);obtain ⟨d1,d2⟩:=ES hB hu hul hvl hc (q:=q);have key: ∀ {k r:Nat},bv B u=r+k*bv B v->r < bv B v->k=bv B u / bv B v/\r=bv B u % bv B v:=by
  intro k r e hr;rw [e,mul_comm k,add_comm];constructor
  ·rw [Nat.mul_add_div (by omega),div_eq_of_lt hr]; rfl
  ·rw [Nat.mul_add_mod,mod_eq_of_lt hr]
 refine ⟨hc,fun h=> ?_,fun h=> ?_⟩
 ·have e:=d1 h;refine key e ?_;rw [add_mul,one_mul] at h1;omega
 ·obtain ⟨e1,e2⟩:=d2 h;have hq0:0 < q:=by
   rcases eq_zero_or_pos q with h3 | h3
   ·subst h3; rw [Nat.zero_mul] at e2; omega
   ·exact h3
  obtain ⟨Q,rfl⟩: ∃ Q,q=Q+1:=⟨q - 1,by omega⟩
  have e3:=GV hB (Q:=Q) (V:=bv B v) (U:=bv B u) (subL_lt (q:=Q+1) hB u v (n+1) 0 0 0) hv (subL_len _ _ _ _ _ _ _ _) hvl e1 e2 h2 rfl;refine ⟨hq0,?_⟩;rw [add_sub_cancel];refine key e3.symm ?_;rw [add_mul,one_mul] at e2;omega
end
def cr (F:Nat->Nat->Nat->Nat×Nat)(x y:List Nat)(i c:Nat):Nat->Nat
 | 0=>c
 | k+1=>(F (x.getD (i+k) 0) (y.getD (i+k) 0) (cr F x y i c k)).2
theorem y4 (F:Nat->Nat->Nat->Nat×Nat)(x y:List Nat)(i c:Nat): ∀ k,cr F x y (i+1) (F (x.getD i 0) (y.getD i 0) c).2 k=cr F x y i c (k+1)
 | 0=>rfl
 | k+1=>by
  show (F (x.getD (i+1+k) 0) (y.getD (i+1+k) 0) (cr F x y (i+1) _ k)).2=(F (x.getD (i+(k+1)) 0) (y.getD (i+(k+1)) 0) (cr F x y i c (k+1))).2;rw [y4 F x y i c k,show i+1+k=i+(k+1) by omega]
theorem eachF_snoc (F:Nat->Nat->Nat->Nat×Nat)(x y:List Nat): ∀ k i c,eachF F x y i (k+1) c=eachF F x y i k c++[(F (x.getD (i+k) 0) (y.getD (i+k) 0) (cr F x y i c k)).1]
 | 0,i,c=>rfl
 | k+1,i,c=>by
  have ih:=eachF_snoc F x y k (i+1) (F (x.getD i 0) (y.getD i 0) c).2;rw [y4,show i+1+k=i+(k+1) by omega] at ih;rw [eachF,ih]; rfl
end Go.Num
end
section
set_option linter.unusedVariables false
set_option maxRecDepth 100000
namespace Go.Proofs.YtoabjjimjldcfaaGreatDoor
open Go Go.Ab
theorem vP (z:Int):an SS.P 48 1 [(0,.int .i64 z)]=some (.cells [.int .i64 z] 3 1 true,gH 1 1):=by kernel_rfl
theorem CX:SS.P.underlying 157=some (.slice 5):=by kernel_rfl
theorem Nt:al SS.P 5=some 1:=by kernel_rfl
theorem It {l:List UInt8}(hd:l.all Num.isDig=true){i:Nat}(h:i < l.length):Num.isDig (l.getD i 0)=true:=by
 rw [gD,gE h];exact all_eq_true.1 hd _ (getElem_mem h)
def fD (h:Heap)(e:TypeId)(vs:List Value):VH:=fun v h'=> ∃ a n c,v = .slice a n c/\OwnR h h' e (.slice a n c) vs/\Ok h h'
theorem getE {l:List UInt8}{k:Nat}(h:k < l.length):l[k]?=some (l.getD k 0):=by
 rw [gD,gE h]; rfl
def uY (a:List UInt8)(e:Int):Value:= .tuple ⟨[aa a,.int .i64 e]⟩
def Bz (a b:List UInt8):Value:=if Num.valid a=true/\Num.valid b=true then uY (Num.toDec (Nat.gcd (Num.val a) (Num.val b))) 0 else uY [] 1
noncomputable def fB:FD:=cB Tryz.f142 [([1,0,0,0],[0])]
abbrev gz  (r:OA) (m d:Nat):LV:=[(.slice r m d)]
theorem tG (a:OA)(n c:Nat)(h:Heap)(Q:VH)(hx:LL SS fB [1,0,0,0] [(.slice a n c)] h (KK SS fB [1,0,0] [] (EE SS fB Q))):FW SS 142 [(.slice a n c)] h Q:=cE fB Tryz.func142 (aj hx)
theorem iB (a:OA)(n c:Nat)  (Inv:Nat->OA->Nat->Nat->Heap->Prop) (Q:VH) (step: ∀ (mz:Nat)(r:OA)(m d:Nat)(zz:Nat->Value)(h:Heap),Inv mz r m d h->aB (decide (((m:Int):Int) > 0)) (xP (ag SS.P 136 (.slice r m d) (.int .i64 (wrap .i64 ((m:Int) - 1)))) fun p1=>xI .u64 (ah SS.P 103 h (.pointer (some p1))) fun n2=>aB (((n2:Int) == 0)) (xL (bh SS.P 136 (.slice r m d) none (some (.int .i64 (wrap .i64 ((m:Int) - 1)))) none h) fun a3 n4 c5=>aF (Lg gz Inv) mz [(.slice a3 n4 c5)] h) (Q (.slice r m d) h)) (Q (.slice r m d) h)) (mz:Nat) {r:OA} {m d:Nat} {h:Heap} (hi:Inv mz r m d h):LL SS fB [1,0,0,0] (gz  r m d) h (KK SS fB [1,0,0] [] (EE SS fB Q)):=
 HX gz Inv (fun mz r m d zz h hi=>aj (step mz r m d zz h hi)) mz hi
noncomputable def bg:FD:=cB Tryz.f140 [([1,1,0,0,0],[0,3]),([1,1,0,0,0,1,0,1,1,0,1,0,0],[0,3,4,5,6])]
abbrev cU  (s:LB) (r:OA) (rn rc:Nat):LV:=[(aa s),(.slice r rn rc)]
abbrev dO (s:LB)(r:OA)(rn rc:Nat)(cut:Int)(i v:Int):LV:=[(aa s),(.slice r rn rc),(.int .i64 cut),(.int .u64 v),(.int .i64 i)]
theorem wm (l:LB)(h:Heap)(Q:VH)(hx:LL SS bg [1,1,0,0,0] [(aa l),nA] h (KK SS bg [1,1,0,0] [] (EE SS bg Q))):FW SS 140 [(aa l)] h Q:=cE bg Tryz.func140 (aj hx)
theorem kL (l:LB)  (Inv:Nat->LB->OA->Nat->Nat->Heap->Prop) (Q:VH) (step: ∀ (mz:Nat)(s:LB)(r:OA)(rn rc:Nat)(zz:Nat->Value)(h:Heap),Inv mz s r rn rc h->aB (decide ((((s:LB).length:Int):Int) > 0)) (xI .i64 (jl true [(.int .i64 0),(.int .i64 (wrap .i64 (((s:LB).length:Int) - 9)))]) fun n1=>LL SS bg [1,1,0,0,0,1,0,1,1,0,1,0,0] (dO s r rn rc n1 n1 0) h (KK SS bg [1,0,1,1,0,1,0] [1,1,0,0,0] (RR bg [1,1,0,0,0] (xh cU Inv) mz (KK SS bg [1,1,0,0] [] (EE SS bg Q))))) (FW SS 142 [(.slice r rn rc)] h fun v2 h3=>yL v2 fun a4 n5 c6=>Q (.slice a4 n5 c6) h3)) (mz:Nat) {s:LB} {r:OA} {rn rc:Nat} {h:Heap} (hi:Inv mz s r rn rc h):LL SS bg [1,1,0,0,0] (cU  s r rn rc) h (KK SS bg [1,1,0,0] [] (EE SS bg Q)):=
 zr cU Inv (fun mz s r rn rc zz h hi=>aj (step mz s r rn rc zz h hi)) mz hi
theorem kW (l:LB)(Inv:Nat->LB->OA->Nat->Nat->Heap->Prop)(mz:Nat)(s:LB)(r:OA)(rn rc:Nat)(cut:Int)(Inv2:Nat->Int->Int->Heap->Prop)(Q:VH)(step: ∀ (mz2:Nat) (i v:Int) (zz:Nat->Value) (h:Heap),Inv2 mz2 i v h->aB (decide ((i:Int) < ((s:LB).length:Int))) (xI .u8 (be SS.P 9 (aa s) (.int .i64 i)) fun n7=>aF (sy (dO s r rn rc cut) Inv2) mz2 [(aa s),(.slice r rn rc),(.int .i64 cut),(.int .u64 (wrap .u64 (wrap .u64 (10*v)+wrap .u64 (wrap .u8 (n7 - 48))))),(.int .i64 (wrap .i64 (i+1)))] h) (xR (an SS.P 136 1 [(0,(.int .u64 v))]) h fun B8 n9 c10 g11=>xE (aJ SS.P 136 136 (.slice r rn rc) (sA (h.next) n9 c10) g11) g11 fun a12 n13 c14 u15 g16=>xS (bh SS.P 9 (aa s) none (some (.int .i64 cut)) none g16) fun l17=>aF (xh cU Inv) mz [(aa l17),(.slice a12 n13 c14)] g16))(mz2:Nat){i v:Int}{h:Heap}(hi:Inv2 mz2 i v h):LL SS bg [1,1,0,0,0,1,0,1,1,0,1,0,0] (dO s r rn rc cut i v) h (KK SS bg [1,0,1,1,0,1,0] [1,1,0,0,0] (RR bg [1,1,0,0,0] (xh cU Inv) mz (KK SS bg [1,1,0,0] [] (EE SS bg Q)))):=
 mT (dO s r rn rc cut) Inv2 (fun mz2 i v zz h hi=>aj (step mz2 i v zz h hi)) mz2 hi
noncomputable def LK:FD:=cB Tryz.f179 []
theorem JE (x:Int)(h:Heap)(Q:VH)(hx:Q (.bool (((x:Int) != x))) h):FW SS 179 [(.int .u64 x)] h Q:=cE LK Tryz.func179 (aj hx)
noncomputable def Ma:FD:=cB Tryz.f169 []
theorem JS (x y:Int)(h:Heap)(Q:VH)(hx:FW SS 179 [(.int .u64 x)] h fun v1 h2=>yB v1 fun b3=>FW SS 179 [(.int .u64 y)] h2 fun v4 h5=>yB v4 fun b6=>aB b3 (aB b6 (Q (.int .i64 0) h5) (Q (.int .i64 (-1)) h5)) (aB b6 (Q (.int .i64 1) h5) (aB (decide ((x:Int) < y)) (Q (.int .i64 (-1)) h5) (aB (decide ((x:Int) > y)) (Q (.int .i64 1) h5) (Q (.int .i64 0) h5))))):FW SS 169 [(.int .u64 x),(.int .u64 y)] h Q:=cE Ma Tryz.func169 (aj hx)
noncomputable def Lx:FD:=cB Tryz.f82 []
theorem Kq (x:Int)(h:Heap)(Q:VH)(hx:Q (.bool (((x:Int) != x))) h):FW SS 82 [(.int .i64 x)] h Q:=cE Lx Tryz.func82 (aj hx)
noncomputable def L6:FD:=cB Tryz.f70 []
theorem JL (x y:Int)(h:Heap)(Q:VH)(hx:FW SS 82 [(.int .i64 x)] h fun v1 h2=>yB v1 fun b3=>FW SS 82 [(.int .i64 y)] h2 fun v4 h5=>yB v4 fun b6=>aB b3 (aB b6 (Q (.int .i64 0) h5) (Q (.int .i64 (-1)) h5)) (aB b6 (Q (.int .i64 1) h5) (aB (decide ((x:Int) < y)) (Q (.int .i64 (-1)) h5) (aB (decide ((x:Int) > y)) (Q (.int .i64 1) h5) (Q (.int .i64 0) h5))))):FW SS 70 [(.int .i64 x),(.int .i64 y)] h Q:=cE L6 Tryz.func70 (aj hx)
noncomputable def dC:FD:=cB Tryz.f160 [([1,1,0,1,0,0],[0,1,18,19])]
abbrev dD (a:OA)(n c:Nat)(b:OA)(m d:Nat)(i:Nat):LV:=[(.slice a n c),(.slice b m d),(iA n),(iA i)]
theorem tX (a:OA)(n c:Nat)(b:OA)(m d:Nat)(h:Heap)(Q:VH)(hx:aB ((((n:Int):Int) != (m:Int))) (FW SS 70 [(iA n),(iA m)] h fun v1 h2=>yI .i64 v1 fun n3=>Q (.int .i64 n3) h2) (LL SS dC [1,1,0,1,0,0] (dD a n c b m d 0) h (KK SS dC [1,1,0,1,0] [] (EE SS dC Q)))):FW SS 160 [(.slice a n c),(.slice b m d)] h Q:=cE dC Tryz.func160 (aj hx)
theorem kK (a:OA)(n c:Nat)(b:OA)(m d:Nat)  (Inv:Nat->Nat->Heap->Prop) (Q:VH) (step: ∀ (mz:Nat)(i:Nat)(zz:Nat->Value)(h:Heap),Inv mz i h->aB (decide (((i:Int):Int) < (n:Int))) (xP (ag SS.P 136 (.slice a n c) (.int .i64 (wrap .i64 (wrap .i64 ((n:Int) - 1) - (i:Int))))) fun p4=>xI .u64 (ah SS.P 103 (room h 18) (.pointer (some p4))) fun n5=>xP (ag SS.P 136 (.slice b m d) (.int .i64 (wrap .i64 (wrap .i64 ((n:Int) - 1) - (i:Int))))) fun p6=>xI .u64 (ah SS.P 103 (room h 18) (.pointer (some p6))) fun n7=>FW SS 169 [(.int .u64 n5),(.int .u64 n7)] (room h 18) fun v8 h9=>yI .i64 v8 fun n10=>aB (((n10:Int) != 0)) (Q (.int .i64 n10) h9) (aF (gM (dD a n c b m d) Inv) mz [(.slice a n c),(.slice b m d),(iA n),(.int .i64 (wrap .i64 ((i:Int)+1)))] h9)) (Q (.int .i64 0) h)) (mz:Nat) {i:Nat} {h:Heap} (hi:Inv mz i h):LL SS dC [1,1,0,1,0,0] (dD a n c b m d i) h (KK SS dC [1,1,0,1,0] [] (EE SS dC Q)):=
 cQ (dD a n c b m d) Inv (fun mz i zz h hi=>aj (step mz i zz h hi)) mz hi
noncomputable def D0:FD:=cB Tryz.f185 []
theorem Al (x y z:Int)(p:OA)(h:Heap)(Q:VH)(hx:xI .u64 (ah SS.P 103 h (.pointer p)) fun n1=>xI .u64 (ak SS.P .rem 103 (.int .u64 (wrap .u64 (wrap .u64 (x*n1)+z))) (.int .u64 1000000000)) fun n2=>xI .u64 (ak SS.P .quo 103 (.int .u64 (wrap .u64 (wrap .u64 (x*n1)+z))) (.int .u64 1000000000)) fun n3=>Q (.tuple ⟨[(.int .u64 n2),(.int .u64 n3)]⟩) h):FW SS 185 [(.int .u64 x),(.int .u64 y),(.int .u64 z),(.pointer p)] h Q:=cE D0 Tryz.func185 (aj hx)
noncomputable def dz:FD:=cB Tryz.f167 [([1,1,1,0,1,0,0],[0,1,2,7,8,18,19])]
abbrev ce (a:OA)(n c:Nat)(p:OA)(lim:Int)(i:Nat)(cy:Int)(r:OA)(rn rc:Nat):LV:=[(.slice a n c),nA,(.func (.func 185) ⟨[]⟩ ⟨[(.pointer p)]⟩),(.slice r rn rc),(.int .u64 cy),(.int .i64 lim),(iA i)]
theorem ud (a:OA)(n c:Nat)(p:OA)(h:Heap)(Q:VH)(hx:xI .i64 (jl true [(iA n),(.int .i64 0)]) fun n1=>LL SS dz [1,1,1,0,1,0,0] [(.slice a n c),nA,(.func (.func 185) ⟨[]⟩ ⟨[(.pointer p)]⟩),nA,(.int .u64 0),(.int .i64 (wrap .i64 (n1+1))),(.int .i64 0)] h (KK SS dz [1,1,1,0,1,0] [] (EE SS dz Q))):FW SS 167 [(.slice a n c),nA,(.func (.func 185) ⟨[]⟩ ⟨[(.pointer p)]⟩)] h Q:=cE dz Tryz.func167 (aj hx)
theorem kI (a:OA)(n c:Nat)(p:OA)(lim:Int)(Inv:Nat->Nat->Int->OA->Nat->Nat->Heap->Prop)(Q:VH)(step: ∀ (mz:Nat) (i:Nat) (cy:Int) (r:OA) (rn rc:Nat) (zz:Nat->Value) (h:Heap),Inv mz i cy r rn rc h->aB (decide (((i:Int):Int) < lim)) (aB (decide (((i:Int):Int) < (n:Int))) (xP (ag SS.P 136 (.slice a n c) (iA i)) fun p2=>xI .u64 (ah SS.P 103 h (.pointer (some p2))) fun n3=>aB (decide (((i:Int):Int) < 0)) (xP (ag SS.P 136 nA (iA i)) fun p4=>xI .u64 (ah SS.P 103 h (.pointer (some p4))) fun n5=>FW SS 185 [(.int .u64 n3),(.int .u64 n5),(.int .u64 cy),(.pointer p)] h fun v6 h7=> ∃ n8:Int,∃ n9:Int,v6=(.tuple ⟨[(.int .u64 n8),(.int .u64 n9)]⟩)/\xR (an SS.P 136 1 [(0,(.int .u64 n8))]) h7 fun B10 n11 c12 g13=>xE (aJ SS.P 136 136 (.slice r rn rc) (sA (h7.next) n11 c12) g13) g13 fun a14 n15 c16 u17 g18=>aF (Ci (ce a n c p lim) Inv) mz [(.slice a n c),nA,(.func (.func 185) ⟨[]⟩ ⟨[(.pointer p)]⟩),(.slice a14 n15 c16),(.int .u64 n9),(.int .i64 lim),(.int .i64 (wrap .i64 ((i:Int)+1)))] g18) (FW SS 185 [(.int .u64 n3),(.int .u64 0),(.int .u64 cy),(.pointer p)] h fun v19 h20=> ∃ n21:Int,∃ n22:Int,v19=(.tuple ⟨[(.int .u64 n21),(.int .u64 n22)]⟩)/\xR (an SS.P 136 1 [(0,(.int .u64 n21))]) h20 fun B23 n24 c25 g26=>xE (aJ SS.P 136 136 (.slice r rn rc) (sA (h20.next) n24 c25) g26) g26 fun a27 n28 c29 u30 g31=>aF (Ci (ce a n c p lim) Inv) mz [(.slice a n c),nA,(.func (.func 185) ⟨[]⟩ ⟨[(.pointer p)]⟩),(.slice a27 n28 c29),(.int .u64 n22),(.int .i64 lim),(.int .i64 (wrap .i64 ((i:Int)+1)))] g31)) (aB (decide (((i:Int):Int) < 0)) (xP (ag SS.P 136 nA (iA i)) fun p32=>xI .u64 (ah SS.P 103 h (.pointer (some p32))) fun n33=>FW SS 185 [(.int .u64 0),(.int .u64 n33),(.int .u64 cy),(.pointer p)] h fun v34 h35=> ∃ n36:Int,∃ n37:Int,v34=(.tuple ⟨[(.int .u64 n36),(.int .u64 n37)]⟩)/\xR (an SS.P 136 1 [(0,(.int .u64 n36))]) h35 fun B38 n39 c40 g41=>xE (aJ SS.P 136 136 (.slice r rn rc) (sA (h35.next) n39 c40) g41) g41 fun a42 n43 c44 u45 g46=>aF (Ci (ce a n c p lim) Inv) mz [(.slice a n c),nA,(.func (.func 185) ⟨[]⟩ ⟨[(.pointer p)]⟩),(.slice a42 n43 c44),(.int .u64 n37),(.int .i64 lim),(.int .i64 (wrap .i64 ((i:Int)+1)))] g46) (FW SS 185 [(.int .u64 0),(.int .u64 0),(.int .u64 cy),(.pointer p)] h fun v47 h48=> ∃ n49:Int,∃ n50:Int,v47=(.tuple ⟨[(.int .u64 n49),(.int .u64 n50)]⟩)/\xR (an SS.P 136 1 [(0,(.int .u64 n49))]) h48 fun B51 n52 c53 g54=>xE (aJ SS.P 136 136 (.slice r rn rc) (sA (h48.next) n52 c53) g54) g54 fun a55 n56 c57 u58 g59=>aF (Ci (ce a n c p lim) Inv) mz [(.slice a n c),nA,(.func (.func 185) ⟨[]⟩ ⟨[(.pointer p)]⟩),(.slice a55 n56 c57),(.int .u64 n50),(.int .i64 lim),(.int .i64 (wrap .i64 ((i:Int)+1)))] g59))) (FW SS 142 [(.slice r rn rc)] h fun v60 h61=>yL v60 fun a62 n63 c64=>Q (.slice a62 n63 c64) h61))(mz:Nat){i:Nat}{cy:Int}{r:OA}{rn rc:Nat}{h:Heap}(hi:Inv mz i cy r rn rc h):LL SS dz [1,1,1,0,1,0,0] (ce a n c p lim i cy r rn rc) h (KK SS dz [1,1,1,0,1,0] [] (EE SS dz Q)):=
 FU (ce a n c p lim) Inv (fun mz i cy r rn rc zz h hi=>aj (step mz i cy r rn rc zz h hi)) mz hi
noncomputable def Ag:FD:=cB Tryz.f175 []
theorem wE (a:OA)(n c:Nat)(k:Int)(h:Heap)(Q:VH)(hx:xN (dY SS.P 103 (.int .u64 k)) h fun B1 g2=>FW SS 167 [(.slice a n c),nA,(.func (.func 185) ⟨[]⟩ ⟨[(pA (h.next))]⟩)] g2 fun v3 h4=>yL v3 fun a5 n6 c7=>Q (.slice a5 n6 c7) h4):FW SS 175 [(.slice a n c),(.int .u64 k)] h Q:=cE Ag Tryz.func175 (aj hx)
def uv (d:Nat):Value:= .int .u64 (d:Int)
theorem qP:SS.P.underlying 136=some (.slice 103):=by kernel_rfl
theorem CU:SS.P.underlying 103=some (.int .u64):=by kernel_rfl
theorem sL:al SS.P 103=some 1:=by kernel_rfl
theorem CP:Go.Ab.isAgg SS.P 103=false:=by kernel_rfl
noncomputable def re103:TypeInfo:=(dA SS.P 103).getD default
theorem xQ:dA SS.P 103=some re103:=by kernel_rfl
theorem sg:re103.size=1:=by kernel_rfl
theorem qx:re103.bytes=8:=by kernel_rfl
theorem kF (z:Int):an SS.P 136 1 [(0,.int .u64 z)]=some (.cells [.int .u64 z] 103 1 true,gH 1 1):=by kernel_rfl
theorem fi {h0 h:Heap}(w0:Wf h0)(ok:Ok h0 h){v:Value}{vs:List Value}(o:OwnR h0 h 103 v vs)(z:Int)(hl:vs.length<=100000):
  ∃ (b:Option Addr)(n c:Nat)(u:Upd),aJ SS.P 136 136 v (.slice (some ⟨h.next,0,none⟩) 1 1) (h.push (.cells [.int .u64 z] 103 1 true))=some (.slice b n c,u)/\n=vs.length+1/\OwnR h0 (u.app (h.push (.cells [.int .u64 z] 103 1 true))) 103 (.slice b n c) (vs++[.int .u64 z])/\Ok h0 (u.app (h.push (.cells [.int .u64 z] 103 1 true))):=
 OwnR.snoc qP xQ sg w0 ok o rfl (by rw [qx]; omega) (by omega)
theorem Gm (l:List Nat)(i:Nat)(h:i < l.length):(l.map uv).getD i undef = .int .u64 (l.getD i 0:Nat):=by
 simp [gD,List.getElem?_map,gE h,uv]
theorem vw {h:Heap}{v:Value}{l:List Nat}(r:Rd h 103 v (l.map uv)){i:Int}(h0:0<=i)(h1:i < l.length):
  ∃ p:Addr,ag SS.P 136 v (.int .i64 i)=some (.pointer (some p))/\ah SS.P 103 h (.pointer (some p))=some (.int .u64 (l.getD i.toNat 0:Nat)):=by
 obtain ⟨p,h2,h3⟩:=r.at_ qP sL CU CP (k:= .i64) h0 (by rw [lM]; exact h1);rw [Gm l _ (by omega)] at h3;exact ⟨p,h2,h3⟩
theorem jK {h0 h:Heap}{a:Option Addr}{n c:Nat}{l:List Nat}(o:OwnR h0 h 103 (.slice a n c) (l.map uv))(hlen:l.length<=100000):
  FW SS 142 [.slice a n c] h (fun v h'=> ∃ a' n' c',v = .slice a' n' c'/\OwnR h0 h 103 (.slice a' n' c') ((Num.trimL l).map uv)/\h'=h):=by
 have hn:n=l.length:=by have:=o.len; rwa [lM] at this
 have L:=iB a n c (fun mz r m d g=>m<=l.length/\mz=m/\OwnR h0 h 103 (.slice r m d) ((l.take m).map uv)/\Num.trimL l=Num.trimL (l.take m)/\g=h) (fun v h'=> ∃ a' n' c',v = .slice a' n' c'/\OwnR h0 h 103 (.slice a' n' c') ((Num.trimL l).map uv)/\h'=h) (by
  intro mz r m d; intros; rename_i g hi;obtain ⟨h1,rfl,h3,h4,rfl⟩:=hi;have hw:wrap .i64 ((mz:Int) - 1)=(mz:Int) - 1:=aq (by omega) (by omega);rw [hw];have hm:mz≠0->l.take mz=l.take (mz - 1)++[l.getD (mz - 1) 0]:=fun hm=>by
   obtain ⟨j,rfl⟩: ∃ j,mz=j+1:=⟨mz - 1,by omega⟩
   rw [List.take_succ_eq_append_getElem (by omega),add_sub_cancel,gD,gE (by omega)]; rfl
  refine ae (fun h5=> ?_) (fun h5=> ?_)
  ·have h5:=dT h5;obtain ⟨p,g2,g3⟩:=vw h3.rd (i:=(mz:Int) - 1) (by omega) (by rw [length_take]; omega);have e1:(l.take mz).getD ((mz:Int) - 1).toNat 0=l.getD (mz - 1) 0:=by
    rw [show ((mz:Int) - 1).toNat=mz - 1 by omega,gD,List.getElem?_take,if_pos (by omega),gD]
   rw [e1] at g3;refine ⟨p,g2,_,g3,ae (fun h6=> ?_) (fun h6=> ?_)⟩
   ·have h6:((l.getD (mz - 1) 0:Nat):Int)=0:=by simpa using h6
    have h6:l.getD (mz - 1) 0=0:=by omega
    obtain ⟨a',n',c',g4,g5⟩:=h3.upto qP sL (z:=mz - 1) (by rw [lM,length_take]; omega) (by rw [lM,length_take]; omega);rw [show ((mz:Int) - 1)=((mz - 1:Nat):Int) by omega];have hn':n'=mz - 1:=by have:=g5.len; rw [length_take,lM,length_take] at this; omega
    subst hn';refine ⟨a',_,c',g4,xu (mz - 1) (by omega) ⟨by omega,rfl,?_,?_,rfl⟩⟩
    ·rw [<-map_take,take_take,min_eq_left (by omega)] at g5;exact g5
    ·rw [h4,hm (by omega),h6,Num.trimL_snoc_zero]
   ·have h6: ¬ ((l.getD (mz - 1) 0:Nat):Int)=0:=by simpa using h6
    refine ⟨r,mz,d,rfl,?_,rfl⟩;rw [h4,hm (by omega),Num.trimL_snoc_pos _ (by omega),<-hm (by omega)];exact h3
  ·have h5:=dF h5;obtain rfl:mz=0:=by omega
   refine ⟨r,0,d,rfl,?_,rfl⟩;rw [h4];exact h3)
 exact tG a n c h _ (L n ⟨by omega,rfl,by rw [show l.take n=l by rw [hn,take_length]]; exact o,by rw [show l.take n=l by rw [hn,take_length]],rfl⟩)
theorem tQ {l:List UInt8}{i:Nat}(h:i < l.length):Num.val (l.take (i+1))=10*Num.val (l.take i)+Num.dv (l.getD i 0):=Num.val_take_succ (getE h)
theorem Fl (l:List UInt8){h:Heap}{b:Nat}(h2:b<=l.length):bh SS.P 9 (aa l) none (some (.int .i64 (b:Int))) none h=some (aa (l.take b)):=jq (a:=0) Nc l rfl rfl (by omega) h2
theorem yZ {s:List UInt8}{cut:Nat}(hc:cut=s.length - 9)(hs:0 < s.length):Num.val s=Num.val (s.drop cut)+10 ^ (s.length - cut)*Num.val (s.take cut):=by
 have:=Num.val_append (s.take cut) (s.drop cut);rw [take_append_drop,length_drop,mul_comm] at this;omega
theorem jQ (l:List UInt8)(hd:l.all Num.isDig=true)(hlen:l.length<=10000)(h:Heap)(w:Wf h):FW SS 140 [aa l] h (fD h 103 ((Num.toB 1000000000 (Num.val l)).map uv)):=by
 have L1:=kL l (fun mz s r rn rc g=>mz=s.length/\s.all Num.isDig=true/\s.length<=10000/\Ok h g/\ ∃ bs:List Nat,(∀ d∈bs,d < 1000000000)/\bs.length+s.length<=10000/\OwnR h g 103 (.slice r rn rc) (bs.map uv)/\Num.val l=Num.bv 1000000000 bs+1000000000 ^ bs.length*Num.val s) (fD h 103 ((Num.toB 1000000000 (Num.val l)).map uv)) (by
  intro mz s r rn rc; intros; rename_i g hi;obtain ⟨rfl,hs,hsl,ok,bs,hb1,hb2,ho,hv⟩:=hi;refine ae (fun h5=> ?_) (fun h5=> ?_)
  ·have h5:=dT h5;have hw:wrap .i64 ((s.length:Int) - 9)=(s.length:Int) - 9:=aq (by omega) (by omega);rw [hw];have hcut:(if (s.length:Int) - 9 > 0 then (s.length:Int) - 9 else 0)=((s.length - 9:Nat):Int):=by split <;> omega
   refine ⟨_,pw _ _ _,?_⟩;rw [hcut];have L2:=kW l (fun mz s r rn rc g=>mz=s.length/\s.all Num.isDig=true/\s.length<=10000/\Ok h g/\ ∃ bs:List Nat,(∀ d∈bs,d < 1000000000)/\bs.length+s.length<=10000/\OwnR h g 103 (.slice r rn rc) (bs.map uv)/\Num.val l=Num.bv 1000000000 bs+1000000000 ^ bs.length*Num.val s) s.length s r rn rc ((s.length - 9:Nat):Int)
    (fun mz2 i v g2=> ∃ j:Nat,i=(s.length - 9:Nat)+(j:Int)/\s.length - 9+j<=s.length/\mz2=s.length - (s.length - 9+j)/\v=(Num.val ((s.drop (s.length - 9)).take j):Nat)/\g2=g) (fD h 103 ((Num.toB 1000000000 (Num.val l)).map uv)) (by
    intro mz2 i v; intros; rename_i g2 hi2;obtain ⟨j,rfl,hj,hmz,rfl,rfl⟩:=hi2;have hdd:(s.drop (s.length - 9)).all Num.isDig=true:=by
     rw [all_eq_true] at hs ⊢;exact fun x hx=>hs x (List.mem_of_mem_drop hx)
    have hlt:=Num.val_lt (l:=(s.drop (s.length - 9)).take j) (by
     rw [all_eq_true] at hdd ⊢;exact fun x hx=>hdd x (mem_of_mem_take hx))
    have hlt9:Num.val ((s.drop (s.length - 9)).take j) < 1000000000:=by
     refine lt_of_lt_of_le hlt (le_trans (pow_le_pow_right (by omega) (show _<=9 by rw [length_take,length_drop]; omega)) (by decide))
    refine ae (fun h6=> ?_) (fun h6=> ?_)
    ·have h6:=dT h6;have hin:s.length - 9+j < s.length:=by omega
     have hdig:=It hs hin;have hdr:=Num.isDig_iff.1 hdig;have hdv:=Num.dv_lt hdig;refine ⟨_,JB (h:=g2) s (by omega) h6,?_⟩;have hi':(((s.length - 9:Nat):Int)+(j:Int)).toNat=s.length - 9+j:=by omega
     rw [hi'];have e1:wrap .u8 ((((s.getD (s.length - 9+j) 0).toNat:Nat):Int) - 48)=(Num.dv (s.getD (s.length - 9+j) 0):Nat):=by
      rw [pR (by omega) (by omega)]; unfold Num.dv; omega
     have e2:(s.drop (s.length - 9)).getD j 0=s.getD (s.length - 9+j) 0:=by
      rw [gD,List.getElem?_drop,gD]
     have e3:=tQ (l:=s.drop (s.length - 9)) (i:=j) (by rw [length_drop]; omega);rw [e2] at e3;dsimp only;rw [e1,cC (n:=((Num.dv (s.getD (s.length - 9+j) 0):Nat):Int)) (by omega) (by omega),cC (n:=10*((Num.val ((s.drop (s.length - 9)).take j):Nat):Int)) (by omega) (by omega),cC (by omega) (by omega),aq (n:=((s.length - 9:Nat):Int)+(j:Int)+1) (by omega) (by omega)];exact iL (mz2 - 1) (by omega) ⟨j+1,by omega,by omega,by omega,by rw [e3]; omega,rfl⟩
    ·have h6:=dF h6;have hjl:(s.drop (s.length - 9)).take j=s.drop (s.length - 9):=take_of_length_le (by rw [length_drop]; omega);rw [hjl] at hlt9 ⊢;refine ⟨_,_,_,kF _,?_⟩;obtain ⟨b,m,d,u,g6,g7,g8,g9⟩:=fi w ok ho ((Num.val (s.drop (s.length - 9)):Nat):Int) (by rw [lM]; omega);refine ⟨b,m,d,u,g6,?_⟩;refine ⟨_,Fl s (show s.length - 9<=s.length by omega),?_⟩;refine tp (s.take (s.length - 9)).length (by rw [length_take]; omega) ⟨rfl,?_,by rw [length_take]; omega,g9,bs++[Num.val (s.drop (s.length - 9))],?_,?_,?_,?_⟩
     ·rw [all_eq_true] at hs ⊢;exact fun x hx=>hs x (mem_of_mem_take hx)
     ·intro x hx;rcases List.mem_append.1 hx with hx | hx
      ·exact hb1 x hx
      ·rw [List.mem_singleton.1 hx]; exact hlt9
     ·rw [length_append,length_take]; simp; omega
     ·rw [map_append]; exact g8
     ·rw [Num.bv_snoc,length_append,hv,yZ (s:=s) rfl (by omega),List.length_singleton];rcases lt_or_ge s.length 10 with h7 | h7
      ·rw [show s.length - 9=0 by omega,take_zero,Num.val_nil];simp
      ·rw [show s.length - (s.length - 9)=9 by omega,show (10:Nat) ^ 9=1000000000 from rfl,pow_succ,mul_add,mul_assoc];omega)
   exact L2 _ ⟨0,by omega,by omega,rfl,by simp [Num.val_nil],rfl⟩
  ·have h5:=dF h5;obtain rfl:s=[]:=List.eq_nil_of_length_eq_zero (by omega);refine (jK ho (by omega)).mono ?_;rintro _ g2 ⟨a',n',c',rfl,o2,rfl⟩;refine ⟨a',n',c',rfl,a',n',c',rfl,?_,ok⟩;rw [hv,Num.val_nil,mul_zero,add_zero,<-Num.trimL_eq (by omega) hb1];exact o2)
 exact wm l h _ (L1 l.length ⟨rfl,hd,hlen,Ok.refl w,[],by simp,by simpa using hlen,.inl ⟨rfl,rfl⟩,by simp [Num.bv]⟩)
end Go.Proofs.YtoabjjimjldcfaaGreatDoor
end
section
namespace Go.Num
theorem bv_lt_of_top {b:Nat}(hb:1 < b){x y:List Nat}(hx: ∀ d∈x,d < b)(hl:x.length=y.length){j:Nat}(hj:j < x.length)(hd:x.drop (j+1)=y.drop (j+1))(hlt:x.getD j 0 < y.getD j 0):bv b x < bv b y:=by
 have h1:=oj b x j (by omega);have h2:=oj b y j (by omega);rw [bv_drop] at h1 h2;rw [h1,h2,hd];have h3:=bv_lt (b:=b) (x:=x.take j) (fun d hm=>hx d (mem_of_mem_take hm));rw [length_take,min_eq_left (by omega)] at h3;have h4:=mul_le_mul_left (b ^ j) (Nat.succ_le_of_lt (Nat.add_lt_add_right hlt (b*bv b (y.drop (j+1)))));rw [mul_succ] at h4;omega
theorem toB_len_lt {b:Nat}(hb:1 < b){m n:Nat}(h:(toB b m).length < (toB b n).length):m < n:=by
 have hn:0 < n:=by
  rcases eq_zero_or_pos n with e | e
  ·subst e; rw [toB_zero] at h; simp at h
  ·exact e
 have h1:=bv_lt (toB_lt hb m);rw [bv_toB hb] at h1;have h2:=nh hb hn;have h3:b ^ (toB b m).length<=b ^ ((toB b n).length - 1):=pow_le_pow_right (by omega) (by omega);omega
end Go.Num
end
section
set_option linter.unusedVariables false
set_option maxRecDepth 100000
namespace Go.Proofs.YtoabjjimjldcfaaGreatDoor
open Go Go.Ab
theorem Cr (x:Int)(h:Heap):FW SS 179 [.int .u64 x] h (fun v h'=>v = .bool false/\h'=h):=JE x h _ ⟨by simp,rfl⟩
theorem Dj (x:Int)(h:Heap):FW SS 82 [.int .i64 x] h (fun v h'=>v = .bool false/\h'=h):=Kq x h _ ⟨by simp,rfl⟩
theorem Kd (m n:Nat)(h:Heap):FW SS 169 [.int .u64 (m:Int),.int .u64 (n:Int)] h (fun v h'=>v = .int .i64 (Num.cmpN m n)/\h'=h):=by
 refine JS _ _ h _ ((Cr _ h).mono ?_);rintro _ _ ⟨rfl,rfl⟩;refine ⟨_,rfl,(Cr _ _).mono ?_⟩;rintro _ _ ⟨rfl,rfl⟩;refine ⟨_,rfl,ae (fun e=>by cases e) (fun _=>ae (fun e=>by cases e) (fun _=>ae (fun h1=> ?_) (fun h1=>ae (fun h2=> ?_) (fun h2=> ?_))))⟩
 ·exact ⟨by rw [Num.cmpN_lt (by have:=dT h1; omega)],rfl⟩
 ·exact ⟨by rw [Num.cmpN_gt (by have:=dT h2; omega)],rfl⟩
 ·have h1:=dF h1;have h2:=dF h2;exact ⟨by rw [show m=n by omega,Num.cmpN_eq],rfl⟩
theorem Jk (m n:Nat)(h:Heap):FW SS 70 [.int .i64 (m:Int),.int .i64 (n:Int)] h (fun v h'=>v = .int .i64 (Num.cmpN m n)/\h'=h):=by
 refine JL _ _ h _ ((Dj _ h).mono ?_);rintro _ _ ⟨rfl,rfl⟩;refine ⟨_,rfl,(Dj _ _).mono ?_⟩;rintro _ _ ⟨rfl,rfl⟩;refine ⟨_,rfl,ae (fun e=>by cases e) (fun _=>ae (fun e=>by cases e) (fun _=>ae (fun h1=> ?_) (fun h1=>ae (fun h2=> ?_) (fun h2=> ?_))))⟩
 ·exact ⟨by rw [Num.cmpN_lt (by have:=dT h1; omega)],rfl⟩
 ·exact ⟨by rw [Num.cmpN_gt (by have:=dT h2; omega)],rfl⟩
 ·have h1:=dF h1;have h2:=dF h2;exact ⟨by rw [show m=n by omega,Num.cmpN_eq],rfl⟩
abbrev BB:Nat:=1000000000
abbrev bl (n:Nat):List Value:=(Num.toB BB n).map uv
theorem cX:1 < BB:=by decide
theorem jg {h:Heap}{a b:Option Addr}{n c m d:Nat}{x y:Nat}(ra:Rd h 103 (.slice a n c) (bl x))(rb:Rd h 103 (.slice b m d) (bl y))(hlen:(Num.toB BB x).length<=10000)(w:Wf h):
  FW SS 160 [.slice a n c,.slice b m d] h (fun v h'=>v = .int .i64 (Num.cmpN x y)/\Ok h h'):=by
 have hn:n=(Num.toB BB x).length:=by have:=ra.len; rwa [lM] at this
 have hm:m=(Num.toB BB y).length:=by have:=rb.len; rwa [lM] at this
 have L:=fun (hl:(Num.toB BB x).length=(Num.toB BB y).length)=>kK a n c b m d (fun mz i g=>i<=n/\mz=n - i/\(Num.toB BB x).drop (n - i)=(Num.toB BB y).drop (n - i)/\Ok h g) (fun v h'=>v = .int .i64 (Num.cmpN x y)/\Ok h h') (by
  intro mz i; intros; rename_i g hi;obtain ⟨h1,h2,h3,ok⟩:=hi;have hw1:wrap .i64 ((n:Int) - 1)=(n:Int) - 1:=aq (by omega) (by omega);have hw2:wrap .i64 ((n:Int) - 1 - (i:Int))=(n:Int) - 1 - (i:Int):=aq (by omega) (by omega);have hw3:wrap .i64 ((i:Int)+1)=((i+1:Nat):Int):=by rw [aq (by omega) (by omega)]; omega
  rw [hw1,hw2,hw3];have ok':=ok.room 18;refine ae (fun h5=> ?_) (fun h5=> ?_)
  ·have h5:=dT h5;have hj:((n:Int) - 1 - (i:Int)).toNat=n - 1 - i:=by omega
   obtain ⟨p,g2,g3⟩:=vw (ra.ok ok') (i:=(n:Int) - 1 - (i:Int)) (by omega) (by omega);obtain ⟨q,g4,g5⟩:=vw (rb.ok ok') (i:=(n:Int) - 1 - (i:Int)) (by omega) (by omega);rw [hj] at g3 g5;refine ⟨p,g2,_,g3,q,g4,_,g5,(Kd _ _ _).mono ?_⟩;rintro _ _ ⟨rfl,rfl⟩;have hd:(Num.toB BB x).drop (n - 1 - i+1)=(Num.toB BB y).drop (n - 1 - i+1):=by rw [show n - 1 - i+1=n - i by omega]; exact h3
   refine ⟨_,rfl,ae (fun h6=> ?_) (fun h6=> ?_)⟩
   ·refine ⟨?_,ok'⟩;have h6:Num.cmpN ((Num.toB BB x).getD (n - 1 - i) 0) ((Num.toB BB y).getD (n - 1 - i) 0)≠0:=by simpa using h6
    rcases Nat.lt_trichotomy ((Num.toB BB x).getD (n - 1 - i) 0) ((Num.toB BB y).getD (n - 1 - i) 0) with h7 | h7 | h7
    ·have:=Num.bv_lt_of_top cX (Num.toB_lt cX x) hl (by omega) hd h7;rw [Num.bv_toB cX,Num.bv_toB cX] at this;rw [Num.cmpN_lt h7,Num.cmpN_lt this]
    ·rw [h7,Num.cmpN_eq] at h6; exact absurd rfl h6
    ·have:=Num.bv_lt_of_top cX (Num.toB_lt cX y) hl.symm (by omega) hd.symm h7;rw [Num.bv_toB cX,Num.bv_toB cX] at this;rw [Num.cmpN_gt h7,Num.cmpN_gt this]
   ·have h6:Num.cmpN ((Num.toB BB x).getD (n - 1 - i) 0) ((Num.toB BB y).getD (n - 1 - i) 0)=0:=by simpa using h6
    have h7:(Num.toB BB x).getD (n - 1 - i) 0=(Num.toB BB y).getD (n - 1 - i) 0:=by
     unfold Num.cmpN at h6;split at h6
     ·cases h6
     ·split at h6
      ·assumption
      ·cases h6
    refine cA (mz - 1) (by omega) ⟨by omega,by omega,?_,ok'⟩;rw [show n - (i+1)=n - 1 - i by omega,drop_eq_getElem_cons (show n - 1 - i < (Num.toB BB x).length by omega),drop_eq_getElem_cons (show n - 1 - i < (Num.toB BB y).length by omega),hd];congr 1;rw [gD,gE (by omega),gD,gE (by omega)] at h7;exact h7
  ·have h5:=dF h5;rw [show n - i=0 by omega,drop_zero,drop_zero] at h3;have:x=y:=by rw [<-Num.bv_toB cX x,h3,Num.bv_toB cX]
   exact ⟨by rw [this,Num.cmpN_eq],ok⟩)
 refine tX a n c b m d h _ (ae (fun h1=>(Jk _ _ h).mono ?_) (fun h1=> ?_))
 ·rintro _ _ ⟨rfl,rfl⟩;have h1:=LH h1;refine ⟨_,rfl,?_,Ok.refl w⟩;rcases Nat.lt_trichotomy n m with h2 | h2 | h2
  ·rw [Num.cmpN_lt h2,Num.cmpN_lt (Num.toB_len_lt cX (by omega))]
  ·exact absurd h2 h1
  ·rw [Num.cmpN_gt h2,Num.cmpN_gt (Num.toB_len_lt cX (by omega))]
 ·have h1:=K2 h1;refine L (by omega) n (i:=0) ⟨by omega,by omega,?_,Ok.refl w⟩;rw [Nat.sub_zero,drop_of_length_le (by omega),drop_of_length_le (by omega)]
theorem Hq {P:Program}{t:TypeId}{h h':Heap}{p v:Value}(o:Ok h h')(hl:ah P t h p=some v):ah P t h' p=some v:=by
 unfold ah at hl ⊢;split at hl
 ·next hu=>
  split at hl
  ·next cs _ _ _ hk=>rw [o.ext _ _ hk]; exact hl
  ·cases hl
 ·cases hl
theorem Bb {h:Heap}{p:Option Addr}{k:Nat}(hp:ah SS.P 103 h (.pointer p)=some (.int .u64 (k:Int)))(x y z:Nat)(hx:x < BB)(hk:k<=BB)(hz:z < BB):
  FW SS 185 [.int .u64 (x:Int),.int .u64 (y:Int),.int .u64 (z:Int),.pointer p] h (fun v h'=>v = .tuple ⟨[uv (Num.scaleF BB k x y z).1,uv (Num.scaleF BB k x y z).2]⟩/\h'=h):=by
 have hBv:BB=1000000000:=rfl;have h1:x*k<=1000000000000000000:=le_trans (mul_le_mul (Nat.le_of_lt hx) hk) (by decide);have e1:wrap .u64 ((x:Int)*(k:Int))=((x*k:Nat):Int):=by rw [<-Int.natCast_mul]; exact cC (by omega) (by omega)
 have e2:wrap .u64 (((x*k:Nat):Int)+(z:Int))=((x*k+z:Nat):Int):=by rw [<-Int.natCast_add]; exact cC (by omega) (by omega)
 refine Al _ _ _ p h _ ⟨_,hp,?_⟩;dsimp only;rw [e1,e2];refine ⟨_,cP (b:=BB) (by omega) (by decide),_,jd (b:=BB) (by omega) (by omega) (by decide),?_,rfl⟩;unfold uv Num.scaleF;rw [natCast_emod,natCast_ediv]
theorem uc {h:Heap}{a:Option Addr}{n c:Nat}{p:Option Addr}{k:Nat}{x:List Nat}(ra:Rd h 103 (.slice a n c) (x.map uv))(hx: ∀ d∈x,d < BB)(hlen:x.length<=10000)(hp:ah SS.P 103 h (.pointer p)=some (.int .u64 (k:Int)))(hk0:0 < k)(hk:k<=BB)(w:Wf h):
  FW SS 167 [.slice a n c,.slice none 0 0,.func (.func 185) ⟨[]⟩ ⟨[.pointer p]⟩] h (fD h 103 (bl (Num.bv BB x*k))):=by
 have hn:n=x.length:=by have:=ra.len; rwa [lM] at this
 have hBv:BB=1000000000:=rfl;have hF: ∀ p q c,c<=BB - 1->p < BB->(Num.scaleF BB k p q c).2<=BB - 1:=fun p q c hc hp=>by
  unfold Num.scaleF;dsimp only;have h1:p*k<=999999999*1000000000:=mul_le_mul (by omega) hk;have:(p*k+c) / BB < BB:=div_lt_of_lt_mul (by rw [hBv]; omega);omega
 have hcr: ∀ j,Num.cr (Num.scaleF BB k) x [] 0 0 j<=BB - 1:=by
  intro j
  induction j with
  | zero=>exact zero_le _
  | succ j ih=>exact hF _ _ _ ih (Num.getD_lt (by decide) hx _)
 have fin:Num.trimL (Num.eachF (Num.scaleF BB k) x [] 0 (n+1) 0)=Num.toB BB (Num.bv BB x*k):=by
  rw [Num.trimL_eq cX (Num.eachF_lt (fun p q c=>mod_lt _ (by decide)) x [] (n+1) 0 0),Num.scale_bv cX hk hk0 hx (n+1) 0 0 (by omega) hk0 (by omega)];rw [drop_zero,add_zero]
 have L:=kI a n c p ((n:Int)+1) (fun mz i cy r rn rc g=>i<=n+1/\mz=n+1 - i/\cy=(Num.cr (Num.scaleF BB k) x [] 0 0 i:Nat)/\OwnR h g 103 (.slice r rn rc) ((Num.eachF (Num.scaleF BB k) x [] 0 i 0).map uv)/\Ok h g) (fD h 103 (bl (Num.bv BB x*k))) (by
  intro mz i cy r rn rc; intros; rename_i g hi;obtain ⟨h1,h2,rfl,ho,ok⟩:=hi;have hw3:wrap .i64 ((i:Int)+1)=((i+1:Nat):Int):=by rw [aq (by omega) (by omega)]; omega
  rw [hw3];have hel:(Num.eachF (Num.scaleF BB k) x [] 0 i 0).length=i:=Num.eachF_len _ _ _ _ _ _;have hsn:=Num.eachF_snoc (Num.scaleF BB k) x [] i 0 0;rw [zero_add] at hsn;have hcr1:Num.cr (Num.scaleF BB k) x [] 0 0 (i+1)=(Num.scaleF BB k (x.getD i 0) (([]:List Nat).getD i 0) (Num.cr (Num.scaleF BB k) x [] 0 0 i)).2:=by
   show (Num.scaleF BB k (x.getD (0+i) 0) (([]:List Nat).getD (0+i) 0) _).2=_;rw [zero_add]
  have hci:=hcr i;have hxi:=Num.getD_lt (b:=BB) (by decide) hx i;have hp':=Hq ok hp;have go:=Bb hp' (x.getD i 0) (([]:List Nat).getD i 0) (Num.cr (Num.scaleF BB k) x [] 0 0 i) hxi hk (by omega);have y0:([]:List Nat).getD i 0=0:=by simp
  refine ae (fun h5=> ?_) (fun h5=> ?_)
  ·have h5:=dT h5;refine ae (fun h6=> ?_) (fun h6=> ?_)
   ·have h6:=dT h6;obtain ⟨q,g2,g3⟩:=vw (ra.ok ok) (i:=(i:Int)) (by omega) (by omega);rw [toNat_natCast] at g3;refine ⟨q,g2,_,g3,ae (fun h7=> ?_) (fun h7=> ?_)⟩
    ·have:=dT h7; omega
    ·refine (show FW SS 185 [.int .u64 ((x.getD i 0:Nat):Int),.int .u64 ((([]:List Nat).getD i 0:Nat):Int),.int .u64 ((Num.cr (Num.scaleF BB k) x [] 0 0 i:Nat):Int),.pointer p] g _ from go).mono ?_ |> (fun hh=>by rw [y0] at hh; exact hh)
     rintro _ _ ⟨rfl,rfl⟩;refine ⟨_,_,rfl,_,_,_,kF _,?_⟩;obtain ⟨b,m,d,u,g6,g7,g8,g9⟩:=fi w ok ho ((Num.scaleF BB k (x.getD i 0) (([]:List Nat).getD i 0) (Num.cr (Num.scaleF BB k) x [] 0 0 i)).1:Nat) (by rw [lM,hel]; omega);refine ⟨b,m,d,u,g6,m7 (mz - 1) (by omega) ⟨by omega,by omega,by rw [hcr1],?_,g9⟩⟩;rw [hsn,map_append];exact g8
   ·have h6:=dF h6;have hx0:x.getD i 0=0:=by rw [gD,getElem?_eq_none (by omega)]; rfl
    refine ae (fun h7=> ?_) (fun h7=> ?_)
    ·have:=dT h7; omega
    ·refine (show FW SS 185 [.int .u64 ((x.getD i 0:Nat):Int),.int .u64 ((([]:List Nat).getD i 0:Nat):Int),.int .u64 ((Num.cr (Num.scaleF BB k) x [] 0 0 i:Nat):Int),.pointer p] g _ from go).mono ?_ |> (fun hh=>by rw [y0,hx0] at hh; exact hh)
     rintro _ _ ⟨rfl,rfl⟩;refine ⟨_,_,rfl,_,_,_,kF _,?_⟩;obtain ⟨b,m,d,u,g6,g7,g8,g9⟩:=fi w ok ho ((Num.scaleF BB k (x.getD i 0) (([]:List Nat).getD i 0) (Num.cr (Num.scaleF BB k) x [] 0 0 i)).1:Nat) (by rw [lM,hel]; omega);refine ⟨b,m,d,u,g6,m7 (mz - 1) (by omega) ⟨by omega,by omega,by rw [hcr1],?_,g9⟩⟩;rw [hsn,map_append];exact g8
  ·have h5:=dF h5;obtain rfl:i=n+1:=by omega
   refine (jK ho (by rw [hel]; omega)).mono ?_;rintro _ g2 ⟨a',n',c',rfl,o2,rfl⟩;rw [fin] at o2;exact ⟨a',n',c',rfl,a',n',c',rfl,o2,ok⟩)
 refine ud a n c p h _ ⟨_,pw _ _ _,?_⟩;have hmx:(if (0:Int) > (n:Int) then (0:Int) else (n:Int))=(n:Int):=if_neg (by omega);have hw:wrap .i64 ((n:Int)+1)=(n:Int)+1:=aq (by omega) (by omega);dsimp only;rw [hmx,hw];exact L (n+1) (i:=0) ⟨by omega,by omega,rfl,.inl ⟨rfl,rfl⟩,Ok.refl w⟩
noncomputable def aA:FD:=cB Tryz.f176 [([1,1,1,1,0,0,0],[0,1,5,7,8]),([1,1,1,1,1,1,0,1,0,0],[0,1,5,7,9,10,87,88]),([1,1,1,1,1,1,1,1,1,0,1,0,0],[0,1,5,7,10,128,129])]
abbrev cg (a:OA)(n c:Nat)(b:OA)(m d:Nat)(q rest:Int):LV:=[(.slice a n c),(.slice b m d),(iA m),(.int .u64 q),(.int .u64 rest)]
abbrev bt (a:OA)(n c:Nat)(b:OA)(m d:Nat)(q lim:Int)(i:Nat)(bo cy:Int):LV:=[(.slice a n c),(.slice b m d),(iA m),(.int .u64 q),(.int .u64 bo),(.int .u64 cy),(.int .i64 lim),(iA i)]
abbrev du (a:OA)(n c:Nat)(b:OA)(m d:Nat)(q lim:Int)(i:Nat)(cy:Int):LV:=[(.slice a n c),(.slice b m d),(iA m),(.int .u64 q),(.int .u64 cy),(.int .i64 lim),(iA i)]
theorem yN (a:OA)(n c:Nat)(b:OA)(m d:Nat)(h:Heap)(Q:VH)(hx:xP (ag SS.P 136 (.slice a n c) (iA m)) fun p1=>xI .u64 (ah SS.P 103 (room h 12) (.pointer (some p1))) fun n2=>xP (ag SS.P 136 (.slice a n c) (.int .i64 (wrap .i64 ((m:Int) - 1)))) fun p3=>xI .u64 (ah SS.P 103 (room h 12) (.pointer (some p3))) fun n4=>xP (ag SS.P 136 (.slice b m d) (.int .i64 (wrap .i64 ((m:Int) - 1)))) fun p5=>xI .u64 (ah SS.P 103 (room (room h 12) 16) (.pointer (some p5))) fun n6=>xI .u64 (ak SS.P .quo 103 (.int .u64 (wrap .u64 (wrap .u64 (n2*1000000000)+n4))) (.int .u64 n6)) fun n7=>xP (ag SS.P 136 (.slice b m d) (.int .i64 (wrap .i64 ((m:Int) - 1)))) fun p8=>xI .u64 (ah SS.P 103 (room (room h 12) 16) (.pointer (some p8))) fun n9=>xI .u64 (ak SS.P .rem 103 (.int .u64 (wrap .u64 (wrap .u64 (n2*1000000000)+n4))) (.int .u64 n9)) fun n10=>LL SS aA [1,1,1,1,0,0,0] (cg a n c b m d n7 n10) (room (room h 12) 16) (KK SS aA [1,1,1,1,0,0] [] (EE SS aA Q))):FW SS 176 [(.slice a n c),(.slice b m d)] h Q:=cE aA Tryz.func176 (aj hx)
theorem mF (a:OA)(n c:Nat)(b:OA)(m d:Nat)  (Inv:Nat->Int->Int->Heap->Prop) (Q:VH) (step: ∀ (mz:Nat)(q rest:Int)(zz:Nat->Value)(h:Heap),Inv mz q rest h->aB (decide ((q:Int)>=1000000000)) (xP (ag SS.P 136 (.slice b m d) (.int .i64 (wrap .i64 ((m:Int) - 1)))) fun p11=>xI .u64 (ah SS.P 103 (room h 28) (.pointer (some p11))) fun n12=>aB (decide ((wrap .u64 (rest+n12):Int)>=1000000000)) (aB (decide ((wrap .u64 (q - 1):Int) < 1000000000)) (LL SS aA [1,1,1,1,1,1,0,1,0,0] (bt a n c b m d (wrap .u64 (q - 1)) (wrap .i64 ((m:Int)+1)) 0 0 0) (room h 28) (KK SS aA [1,1,1,1,1,1,0,1,0] [] (EE SS aA Q))) (aF (sy (cg a n c b m d) Inv) mz [(.slice a n c),(.slice b m d),(iA m),(.int .u64 (wrap .u64 (q - 1))),(.int .u64 (wrap .u64 (rest+n12)))] (room h 28))) (aF (sy (cg a n c b m d) Inv) mz [(.slice a n c),(.slice b m d),(iA m),(.int .u64 (wrap .u64 (q - 1))),(.int .u64 (wrap .u64 (rest+n12)))] (room h 28))) (aB (decide (((m:Int):Int) > 1)) (aB (decide ((rest:Int) < 1000000000)) (xP (ag SS.P 136 (.slice b m d) (.int .i64 (wrap .i64 ((m:Int) - 2)))) fun p13=>xI .u64 (ah SS.P 103 (room h 28) (.pointer (some p13))) fun n14=>xP (ag SS.P 136 (.slice a n c) (.int .i64 (wrap .i64 ((m:Int) - 2)))) fun p15=>xI .u64 (ah SS.P 103 (room h 28) (.pointer (some p15))) fun n16=>aB (decide ((wrap .u64 (q*n14):Int) > wrap .u64 (wrap .u64 (rest*1000000000)+n16))) (xP (ag SS.P 136 (.slice b m d) (.int .i64 (wrap .i64 ((m:Int) - 1)))) fun p17=>xI .u64 (ah SS.P 103 (room h 28) (.pointer (some p17))) fun n18=>aB (decide ((wrap .u64 (rest+n18):Int)>=1000000000)) (aB (decide ((wrap .u64 (q - 1):Int) < 1000000000)) (LL SS aA [1,1,1,1,1,1,0,1,0,0] (bt a n c b m d (wrap .u64 (q - 1)) (wrap .i64 ((m:Int)+1)) 0 0 0) (room h 28) (KK SS aA [1,1,1,1,1,1,0,1,0] [] (EE SS aA Q))) (aF (sy (cg a n c b m d) Inv) mz [(.slice a n c),(.slice b m d),(iA m),(.int .u64 (wrap .u64 (q - 1))),(.int .u64 (wrap .u64 (rest+n18)))] (room h 28))) (aF (sy (cg a n c b m d) Inv) mz [(.slice a n c),(.slice b m d),(iA m),(.int .u64 (wrap .u64 (q - 1))),(.int .u64 (wrap .u64 (rest+n18)))] (room h 28))) (LL SS aA [1,1,1,1,1,1,0,1,0,0] (bt a n c b m d q (wrap .i64 ((m:Int)+1)) 0 0 0) (room h 28) (KK SS aA [1,1,1,1,1,1,0,1,0] [] (EE SS aA Q)))) (LL SS aA [1,1,1,1,1,1,0,1,0,0] (bt a n c b m d q (wrap .i64 ((m:Int)+1)) 0 0 0) (room h 28) (KK SS aA [1,1,1,1,1,1,0,1,0] [] (EE SS aA Q)))) (LL SS aA [1,1,1,1,1,1,0,1,0,0] (bt a n c b m d q (wrap .i64 ((m:Int)+1)) 0 0 0) (room h 28) (KK SS aA [1,1,1,1,1,1,0,1,0] [] (EE SS aA Q))))) (mz:Nat) {q rest:Int} {h:Heap} (hi:Inv mz q rest h):LL SS aA [1,1,1,1,0,0,0] (cg a n c b m d q rest) h (KK SS aA [1,1,1,1,0,0] [] (EE SS aA Q)):=
 mT (cg a n c b m d) Inv (fun mz q rest zz h hi=>aj (step mz q rest zz h hi)) mz hi
theorem mD (a:OA)(n c:Nat)(b:OA)(m d:Nat)(q lim:Int)(Inv:Nat->Nat->Int->Int->Heap->Prop)(Q:VH)(step: ∀ (mz:Nat) (i:Nat) (bo cy:Int) (zz:Nat->Value) (h:Heap),Inv mz i bo cy h->aB (decide (((i:Int):Int) < lim)) (aB (decide (((i:Int):Int) < (m:Int))) (xP (ag SS.P 136 (.slice b m d) (iA i)) fun p19=>xI .u64 (ah SS.P 103 h (.pointer (some p19))) fun n20=>xP (ag SS.P 136 (.slice a n c) (iA i)) fun p21=>xI .u64 (ah SS.P 103 h (.pointer (some p21))) fun n22=>xI .u64 (ak SS.P .rem 103 (.int .u64 (wrap .u64 (cy+wrap .u64 (q*n20)))) (.int .u64 1000000000)) fun n23=>xI .u64 (ak SS.P .rem 103 (.int .u64 (wrap .u64 (wrap .u64 (wrap .u64 (n22+1000000000) - n23) - bo))) (.int .u64 1000000000)) fun n24=>xI .u64 (ak SS.P .quo 103 (.int .u64 (wrap .u64 (wrap .u64 (wrap .u64 (n22+1000000000) - n23) - bo))) (.int .u64 1000000000)) fun n25=>xI .u64 (ak SS.P .quo 103 (.int .u64 (wrap .u64 (cy+wrap .u64 (q*n20)))) (.int .u64 1000000000)) fun n26=>xP (ag SS.P 136 (.slice a n c) (iA i)) fun p27=>xU (ai SS.P 103 (.pointer (some p27)) (.int .u64 n24) h) h fun u28 g29=>aF (Lg (bt a n c b m d q lim) Inv) mz [(.slice a n c),(.slice b m d),(iA m),(.int .u64 q),(.int .u64 (wrap .u64 (1 - n25))),(.int .u64 n26),(.int .i64 lim),(.int .i64 (wrap .i64 ((i:Int)+1)))] g29) (xP (ag SS.P 136 (.slice a n c) (iA i)) fun p30=>xI .u64 (ah SS.P 103 h (.pointer (some p30))) fun n31=>xI .u64 (ak SS.P .rem 103 (.int .u64 cy) (.int .u64 1000000000)) fun n32=>xI .u64 (ak SS.P .rem 103 (.int .u64 (wrap .u64 (wrap .u64 (wrap .u64 (n31+1000000000) - n32) - bo))) (.int .u64 1000000000)) fun n33=>xI .u64 (ak SS.P .quo 103 (.int .u64 (wrap .u64 (wrap .u64 (wrap .u64 (n31+1000000000) - n32) - bo))) (.int .u64 1000000000)) fun n34=>xI .u64 (ak SS.P .quo 103 (.int .u64 cy) (.int .u64 1000000000)) fun n35=>xP (ag SS.P 136 (.slice a n c) (iA i)) fun p36=>xU (ai SS.P 103 (.pointer (some p36)) (.int .u64 n33) h) h fun u37 g38=>aF (Lg (bt a n c b m d q lim) Inv) mz [(.slice a n c),(.slice b m d),(iA m),(.int .u64 q),(.int .u64 (wrap .u64 (1 - n34))),(.int .u64 n35),(.int .i64 lim),(.int .i64 (wrap .i64 ((i:Int)+1)))] g38)) (aB (((bo:Int) == 0)) (Q (.int .u64 q) h) (LL SS aA [1,1,1,1,1,1,1,1,1,0,1,0,0] (du a n c b m d q (wrap .i64 ((m:Int)+1)) 0 0) h (KK SS aA [1,1,1,1,1,1,1,1,1,0,1,0] [] (EE SS aA Q)))))(mz:Nat){i:Nat}{bo cy:Int}{h:Heap}(hi:Inv mz i bo cy h):LL SS aA [1,1,1,1,1,1,0,1,0,0] (bt a n c b m d q lim i bo cy) h (KK SS aA [1,1,1,1,1,1,0,1,0] [] (EE SS aA Q)):=
 HX (bt a n c b m d q lim) Inv (fun mz i bo cy zz h hi=>aj (step mz i bo cy zz h hi)) mz hi
theorem mJ (a:OA)(n c:Nat)(b:OA)(m d:Nat)(q lim:Int)(Inv:Nat->Nat->Int->Heap->Prop)(Q:VH)(step: ∀ (mz:Nat) (i:Nat) (cy:Int) (zz:Nat->Value) (h:Heap),Inv mz i cy h->aB (decide (((i:Int):Int) < lim)) (xP (ag SS.P 136 (.slice a n c) (iA i)) fun p39=>xI .u64 (ah SS.P 103 h (.pointer (some p39))) fun n40=>aB (decide (((i:Int):Int) < (m:Int))) (xP (ag SS.P 136 (.slice b m d) (iA i)) fun p41=>xI .u64 (ah SS.P 103 h (.pointer (some p41))) fun n42=>xI .u64 (ak SS.P .rem 103 (.int .u64 (wrap .u64 (wrap .u64 (n40+cy)+n42))) (.int .u64 1000000000)) fun n43=>xI .u64 (ak SS.P .quo 103 (.int .u64 (wrap .u64 (wrap .u64 (n40+cy)+n42))) (.int .u64 1000000000)) fun n44=>xP (ag SS.P 136 (.slice a n c) (iA i)) fun p45=>xU (ai SS.P 103 (.pointer (some p45)) (.int .u64 n43) h) h fun u46 g47=>aF (sy (du a n c b m d q lim) Inv) mz [(.slice a n c),(.slice b m d),(iA m),(.int .u64 q),(.int .u64 n44),(.int .i64 lim),(.int .i64 (wrap .i64 ((i:Int)+1)))] g47) (xI .u64 (ak SS.P .rem 103 (.int .u64 (wrap .u64 (n40+cy))) (.int .u64 1000000000)) fun n48=>xI .u64 (ak SS.P .quo 103 (.int .u64 (wrap .u64 (n40+cy))) (.int .u64 1000000000)) fun n49=>xP (ag SS.P 136 (.slice a n c) (iA i)) fun p50=>xU (ai SS.P 103 (.pointer (some p50)) (.int .u64 n48) h) h fun u51 g52=>aF (sy (du a n c b m d q lim) Inv) mz [(.slice a n c),(.slice b m d),(iA m),(.int .u64 q),(.int .u64 n49),(.int .i64 lim),(.int .i64 (wrap .i64 ((i:Int)+1)))] g52)) (Q (.int .u64 (wrap .u64 (q - 1))) h))(mz:Nat){i:Nat}{cy:Int}{h:Heap}(hi:Inv mz i cy h):LL SS aA [1,1,1,1,1,1,1,1,1,0,1,0,0] (du a n c b m d q lim i cy) h (KK SS aA [1,1,1,1,1,1,1,1,1,0,1,0] [] (EE SS aA Q)):=
 mT (du a n c b m d q lim) Inv (fun mz i cy zz h hi=>aj (step mz i cy zz h hi)) mz hi
noncomputable def aS:FD:=cB Tryz.f163 [([1,1,1,1,1,0,0,0],[0,1,6,7,8,9]),([1,1,1,1,1,1,1,0,1,0,0],[0,1,4,6,7,8,9,49,50]),([1,1,1,1,1,1,1,1,1,1,0,1,0,0],[4,5,7,12,74,75])]
abbrev dP (a:OA)(n c:Nat)(b:OA)(m d:Nat)(kk:Int)(e:OA)(en ec:Nat)(r:OA)(rn rc:Nat):LV:=[(.slice a n c),(.slice b m d),(iA m),(.int .u64 kk),(.slice r rn rc),(.slice e en ec)]
abbrev dM (a:OA)(n c:Nat)(b:OA)(m d:Nat)(kk:Int)(g:OA)(gn gc:Nat)(r:OA)(rn rc:Nat)(e:OA)(en ec:Nat)(lim:Int)(i:Nat):LV:=[(.slice a n c),(.slice b m d),(.slice g gn gc),(iA m),(.int .u64 kk),(.slice r rn rc),(.slice e en ec),(.int .i64 lim),(iA i)]
abbrev dL (kk:Int)(g:OA)(gn gc:Nat)(r:OA)(rn rc:Nat)(lim:Int)(i:Nat)(left:Int):LV:=[(.slice g gn gc),(.slice r rn rc),(.int .u64 kk),(.int .u64 left),(.int .i64 lim),(iA i)]
theorem wF (a:OA)(n c:Nat)(b:OA)(m d:Nat)(h:Heap)(Q:VH)(hx:FW SS 160 [(.slice a n c),(.slice b m d)] h fun v1 h2=>yI .i64 v1 fun n3=>aB (decide ((n3:Int) < 0)) (Q (.tuple ⟨[nA,(.slice a n c)]⟩) h2) (xP (ag SS.P 136 (.slice b m d) (.int .i64 (wrap .i64 ((m:Int) - 1)))) fun p4=>xI .u64 (ah SS.P 103 h2 (.pointer (some p4))) fun n5=>xI .u64 (ak SS.P .quo 103 (.int .u64 1000000000) (.int .u64 (wrap .u64 (n5+1)))) fun n6=>FW SS 175 [(.slice a n c),(.int .u64 n6)] h2 fun v7 h8=>yL v7 fun a9 n10 c11=>FW SS 175 [(.slice b m d),(.int .u64 n6)] h8 fun v12 h13=>yL v12 fun a14 n15 c16=>LL SS aS [1,1,1,1,1,0,0,0] (dP a n c b m d n6 a14 n15 c16 a9 n10 c11) h13 (KK SS aS [1,1,1,1,1,0,0] [] (EE SS aS Q)))):FW SS 163 [(.slice a n c),(.slice b m d)] h Q:=cE aS Tryz.func163 (aj hx)
theorem lm (a:OA)(n c:Nat)(b:OA)(m d:Nat)(kk:Int)(e:OA)(en ec:Nat)(Inv:Nat->OA->Nat->Nat->Heap->Prop)(Q:VH)(step: ∀ (mz:Nat) (r:OA) (rn rc:Nat) (zz:Nat->Value) (h:Heap),Inv mz r rn rc h->aB (decide (((rn:Int):Int)<=(n:Int))) (xR (an SS.P 136 1 [(0,(.int .u64 0))]) h fun B17 n18 c19 g20=>xE (aJ SS.P 136 136 (.slice r rn rc) (sA (h.next) n18 c19) g20) g20 fun a21 n22 c23 u24 g25=>aF (Lg (dP a n c b m d kk e en ec) Inv) mz [(.slice a n c),(.slice b m d),(iA m),(.int .u64 kk),(.slice a21 n22 c23),(.slice e en ec)] g25) (xR (aX SS.P 136 (.int .i64 (wrap .i64 ((rn:Int) - (m:Int)))) (.int .i64 (wrap .i64 ((rn:Int) - (m:Int))))) h fun B26 n27 c28 g29=>LL SS aS [1,1,1,1,1,1,1,0,1,0,0] (dM a n c b m d kk (some ⟨h.next,0,none⟩) n27 c28 r rn rc e en ec (n27:Int) 0) g29 (KK SS aS [1,1,1,1,1,1,1,0,1,0] [] (EE SS aS Q))))(mz:Nat){r:OA}{rn rc:Nat}{h:Heap}(hi:Inv mz r rn rc h):LL SS aS [1,1,1,1,1,0,0,0] (dP a n c b m d kk e en ec r rn rc) h (KK SS aS [1,1,1,1,1,0,0] [] (EE SS aS Q)):=
 HX (dP a n c b m d kk e en ec) Inv (fun mz r rn rc zz h hi=>aj (step mz r rn rc zz h hi)) mz hi
theorem lc (a:OA)(n c:Nat)(b:OA)(m d:Nat)(kk:Int)(g:OA)(gn gc:Nat)(r:OA)(rn rc:Nat)(e:OA)(en ec:Nat)(lim:Int)(Inv:Nat->Nat->Heap->Prop)(Q:VH)(step: ∀ (mz:Nat) (i:Nat) (zz:Nat->Value) (h:Heap),Inv mz i h->aB (decide (((i:Int):Int) < lim)) (xL (bh SS.P 136 (.slice r rn rc) (some (.int .i64 (wrap .i64 (wrap .i64 ((gn:Int) - 1) - (i:Int))))) (some (.int .i64 (wrap .i64 (wrap .i64 (wrap .i64 (wrap .i64 ((gn:Int) - 1) - (i:Int))+(m:Int))+1)))) none h) fun a30 n31 c32=>FW SS 176 [(.slice a30 n31 c32),(.slice e en ec)] h fun v33 h34=>yI .u64 v33 fun n35=>xP (ag SS.P 136 (.slice g gn gc) (.int .i64 (wrap .i64 (wrap .i64 ((gn:Int) - 1) - (i:Int))))) fun p36=>xU (ai SS.P 103 (.pointer (some p36)) (.int .u64 n35) h34) h34 fun u37 g38=>aF (gM (dM a n c b m d kk g gn gc r rn rc e en ec lim) Inv) mz [(.slice a n c),(.slice b m d),(.slice g gn gc),(iA m),(.int .u64 kk),(.slice r rn rc),(.slice e en ec),(.int .i64 lim),(.int .i64 (wrap .i64 ((i:Int)+1)))] g38) (FW SS 142 [(.slice r rn rc)] h fun v39 h40=>yL v39 fun a41 n42 c43=>LL SS aS [1,1,1,1,1,1,1,1,1,1,0,1,0,0] (dL kk g gn gc a41 n42 c43 (n42:Int) 0 0) h40 (KK SS aS [1,1,1,1,1,1,1,1,1,1,0,1,0] [] (EE SS aS Q))))(mz:Nat){i:Nat}{h:Heap}(hi:Inv mz i h):LL SS aS [1,1,1,1,1,1,1,0,1,0,0] (dM a n c b m d kk g gn gc r rn rc e en ec lim i) h (KK SS aS [1,1,1,1,1,1,1,0,1,0] [] (EE SS aS Q)):=
 cQ (dM a n c b m d kk g gn gc r rn rc e en ec lim) Inv (fun mz i zz h hi=>aj (step mz i zz h hi)) mz hi
theorem lf (a:OA)(n c:Nat)(b:OA)(m d:Nat)(kk:Int)(g:OA)(gn gc:Nat)(r:OA)(rn rc:Nat)(lim:Int)(Inv:Nat->Nat->Int->Heap->Prop)(Q:VH)(step: ∀ (mz:Nat) (i:Nat) (left:Int) (zz:Nat->Value) (h:Heap),Inv mz i left h->aB (decide (((i:Int):Int) < lim)) (xP (ag SS.P 136 (.slice r rn rc) (.int .i64 (wrap .i64 (wrap .i64 ((rn:Int) - 1) - (i:Int))))) fun p44=>xI .u64 (ah SS.P 103 h (.pointer (some p44))) fun n45=>xI .u64 (ak SS.P .quo 103 (.int .u64 (wrap .u64 (wrap .u64 (left*1000000000)+n45))) (.int .u64 kk)) fun n46=>xI .u64 (ak SS.P .rem 103 (.int .u64 (wrap .u64 (wrap .u64 (left*1000000000)+n45))) (.int .u64 kk)) fun n47=>xP (ag SS.P 136 (.slice r rn rc) (.int .i64 (wrap .i64 (wrap .i64 ((rn:Int) - 1) - (i:Int))))) fun p48=>xU (ai SS.P 103 (.pointer (some p48)) (.int .u64 n46) (room h 11)) (room h 11) fun u49 g50=>aF (sy (dL kk g gn gc r rn rc lim) Inv) mz [(.slice g gn gc),(.slice r rn rc),(.int .u64 kk),(.int .u64 n47),(.int .i64 lim),(.int .i64 (wrap .i64 ((i:Int)+1)))] g50) (FW SS 142 [(.slice g gn gc)] h fun v51 h52=>yL v51 fun a53 n54 c55=>FW SS 142 [(.slice r rn rc)] h52 fun v56 h57=>yL v56 fun a58 n59 c60=>Q (.tuple ⟨[(.slice a53 n54 c55),(.slice a58 n59 c60)]⟩) h57))(mz:Nat){i:Nat}{left:Int}{h:Heap}(hi:Inv mz i left h):LL SS aS [1,1,1,1,1,1,1,1,1,1,0,1,0,0] (dL kk g gn gc r rn rc lim i left) h (KK SS aS [1,1,1,1,1,1,1,1,1,1,0,1,0] [] (EE SS aS Q)):=
 mT (dL kk g gn gc r rn rc lim) Inv (fun mz i left zz h hi=>aj (step mz i left zz h hi)) mz hi
end Go.Proofs.YtoabjjimjldcfaaGreatDoor
end
section
namespace Go.Num
theorem subL_snoc (B q:Nat)(u v:List Nat): ∀ k i b c,subL B q u v i (k+1) b c =
    ((subL B q u v i k b c).1++[(mH B q (u.getD (i+k) 0) (v.getD (i+k) 0) (subL B q u v i k b c).2.1 (subL B q u v i k b c).2.2).1],
     (mH B q (u.getD (i+k) 0) (v.getD (i+k) 0) (subL B q u v i k b c).2.1 (subL B q u v i k b c).2.2).2.1,
     (mH B q (u.getD (i+k) 0) (v.getD (i+k) 0) (subL B q u v i k b c).2.1 (subL B q u v i k b c).2.2).2.2)
  | 0,i,b,c=>rfl
  | k+1,i,b,c=>by
    have ih:=subL_snoc B q u v k (i+1) (mH B q (u.getD i 0) (v.getD i 0) b c).2.1 (mH B q (u.getD i 0) (v.getD i 0) b c).2.2;rw [show i+1+k=i+(k+1) by omega] at ih;show (_::(subL B q u v (i+1) (k+1) _ _).1,(subL B q u v (i+1) (k+1) _ _).2)=_;rw [ih];rfl
theorem subL_borrow {B q:Nat}(hB:1 < B){u v:List Nat}(hu: ∀ d∈u,d < B)(k:Nat):(subL B q u v 0 k 0 0).2.1<=1:=(vS hB (v:=v) hu k 0 0 0 (by omega)).2
theorem subL_carry_lt {B q:Nat}(hB:1 < B)(hq:q < B){u v:List Nat}(hv: ∀ d∈v,d < B): ∀ k,(subL B q u v 0 k 0 0).2.2 < B
  | 0=>by simp [subL]; omega
  | k+1=>by
    rw [subL_snoc];have ih:=subL_carry_lt hB hq (u:=u) hv k;have h2:=getD_lt (by omega) hv (0+k);show (q*v.getD (0+k) 0+(subL B q u v 0 k 0 0).2.2) / B < B;refine div_lt_of_lt_mul ?_;have h3:q*v.getD (0+k) 0<=(B - 1)*(B - 1):=mul_le_mul (by omega) (by omega);have h4:(B - 1)*(B - 1)+(B - 1)=(B - 1)*B:=by rw [<-mul_succ]; congr 1; omega
    have h5:(B - 1)*B+B=B*B:=by rw [<-succ_mul]; congr 1; omega
    omega
theorem set_front {α:Type}(x y:List α){i:Nat}(hx:x.length=i)(hi:i < y.length)(d:α):(x++y.drop i).set i d=(x++[d])++y.drop (i+1):=by
  rw [List.set_append,if_neg (by omega),hx,sub_self,drop_eq_getElem_cons hi,List.set_cons_zero,append_assoc]; rfl
theorem getD_front (x y:List Nat){i:Nat}(hx:x.length=i):(x++y.drop i).getD i 0=y.getD i 0:=by
  rw [gD,List.getElem?_append_right (by omega),hx,sub_self,List.getElem?_drop,add_zero,gD]
end Go.Num
end
section
set_option linter.unusedVariables false
set_option maxRecDepth 100000
namespace Go.Proofs.YtoabjjimjldcfaaGreatDoor
open Go Go.Ab
section
def ba (cs:List Value)(off:Nat)(W:List Nat):List Value:=cs.take off++W.map uv++cs.drop (off+W.length)
structure OkX (h:Heap)(k:Nat)(h':Heap):Prop where
 wf:Wf h'
 keep: ∀ j B,j≠k->h.get j=some B->h'.get j=some B
 nx:h.next<=h'.next
theorem OkX.refl {h:Heap}{k:Nat}(w:Wf h):OkX h k h:=⟨w,fun _ _ _ h=>h,le_refl _⟩
theorem OkX.room {h h':Heap}{k:Nat}(o:OkX h k h')(n:Nat):OkX h k (room h' n):=⟨fun j B hj=>lt_of_lt_of_le (o.wf j B hj) (Nat.le_add_right _ _),o.keep,le_trans o.nx (Nat.le_add_right _ _)⟩
theorem OkX.set {h h':Heap}{k:Nat}(o:OkX h k h')(hk:k < h'.next)(B:Blk):OkX h k (h'.set k B):=by
 refine ⟨fun j C hj=> ?_,fun j C hjk hj=> ?_,o.nx⟩
 ·rw [Heap.get_set] at hj;split at hj
  ·next e=>rw [e]; exact hk
  ·exact o.wf _ _ hj
 ·rw [Heap.get_set,if_neg hjk]; exact o.keep _ _ hjk hj
theorem oH {k off n c:Nat}{i:Int}(h0:0<=i)(h1:i < n):ag SS.P 136 (.slice (some ⟨k,off,none⟩) n c) (.int .i64 i)=some (.pointer (some ⟨k,off+i.toNat,none⟩)):=by
 unfold ag;rw [qP]; dsimp only;rw [sL]; dsimp only;rw [if_pos ⟨h0,h1⟩,mul_one,bu]
section
variable {g:Heap} {k off:Nat} {cs:List Value} {W:List Nat}
theorem rX (hg:g.get k=some (.cells (ba cs off W) 103 1 true))(hl:off+W.length<=cs.length){i:Nat}(hi:i < W.length):ah SS.P 103 g (.pointer (some ⟨k,off+i,none⟩))=some (.int .u64 (W.getD i 0:Nat)):=by
 unfold ah;rw [CU]; dsimp only;rw [hg]; dsimp only;rw [CP];simp only [Bool.false_eq_true,if_false];unfold ba;rw [append_assoc,List.getElem?_append_right (by rw [length_take]; omega),length_take,min_eq_left (by omega),Nat.add_sub_cancel_left,List.getElem?_append_left (by rw [lM]; exact hi),List.getElem?_map,gE hi,gD,gE hi]; rfl
theorem sU (hg:g.get k=some (.cells (ba cs off W) 103 1 true))(hl:off+W.length<=cs.length){i:Nat}(hi:i < W.length)(d:Nat):ai SS.P 103 (.pointer (some ⟨k,off+i,none⟩)) (.int .u64 (d:Int)) g=some (undef,.set k (.cells (ba cs off (W.set i d)) 103 1 true)):=by
 show (if al SS.P 103=some 1 then (storeAt g k (off+i) [.int .u64 (d:Int)]).map fun u=>(undef,u) else none)=_;rw [if_pos sL];unfold storeAt;rw [hg]; dsimp only;have hlen:(ba cs off W).length=cs.length:=by
  unfold ba;simp only [length_append,length_take,lM,length_drop]; omega
 rw [if_pos ⟨by rw [hlen]; simp; omega,rfl⟩];have e:(ba cs off W).take (off+i)++[Value.int .u64 (d:Int)]++(ba cs off W).drop (off+i+[Value.int .u64 (d:Int)].length)=ba cs off (W.set i d):=by
  have ht:(cs.take off).length=off:=by rw [length_take]; omega
  have e0:(ba cs off W).take (off+i)++[Value.int .u64 (d:Int)]++(ba cs off W).drop (off+i+[Value.int .u64 (d:Int)].length)=(ba cs off W).set (off+i) (.int .u64 (d:Int)):=by
   rw [List.set_eq_take_append_cons_drop,if_pos (by rw [hlen]; omega),append_assoc]; rfl
  rw [e0];unfold ba;rw [append_assoc,List.set_append,if_neg (by omega),ht,Nat.add_sub_cancel_left,List.set_append,if_pos (by rw [lM]; exact hi),length_set,append_assoc,List.map_set]; rfl
 rw [e]; rfl
end
end
theorem rL {a:Nat}:ak SS.P .rem 103 (.int .u64 (a:Int)) (.int .u64 1000000000)=some (.int .u64 ((a % BB:Nat):Int)):=by
 have:=cP (P:=SS.P) (t:=103) (k:= .u64) (a:=(a:Int)) (b:=BB) (by omega) (by decide);rw [<-natCast_emod] at this; exact this
theorem uM {a:Nat}(h:a < 18446744073709551616):ak SS.P .quo 103 (.int .u64 (a:Int)) (.int .u64 1000000000)=some (.int .u64 ((a / BB:Nat):Int)):=by
 have:=jd (P:=SS.P) (t:=103) (a:=(a:Int)) (b:=BB) (by omega) (by omega) (by decide);rw [<-natCast_ediv] at this; exact this
theorem KD {a b:Nat}(hb:0 < b):ak SS.P .rem 103 (.int .u64 (a:Int)) (.int .u64 (b:Int))=some (.int .u64 ((a % b:Nat):Int)):=by
 have:=cP (P:=SS.P) (t:=103) (k:= .u64) (a:=(a:Int)) (b:=b) (by omega) hb;rw [<-natCast_emod] at this; exact this
theorem Gt {a b:Nat}(h:a < 18446744073709551616)(hb:0 < b):ak SS.P .quo 103 (.int .u64 (a:Int)) (.int .u64 (b:Int))=some (.int .u64 ((a / b:Nat):Int)):=by
 have:=jd (P:=SS.P) (t:=103) (a:=(a:Int)) (b:=b) (by omega) (by omega) hb;rw [<-natCast_ediv] at this; exact this
theorem wU {n:Int}{m:Nat}(h:n=(m:Int))(h2:m < 18446744073709551616):wrap .u64 n=(m:Int):=by rw [h]; exact cC (by omega) (by omega)
structure DigIn (h:Heap)(k off c m:Nat)(cs:List Value)(U V:List Nat)(b:Option Addr)(d:Nat):Prop where
 w:Wf h
 get:h.get k=some (.cells (ba cs off U) 103 1 true)
 fit:off+U.length<=cs.length
 ul:U.length=m+1
 vl:V.length=m
 mp:0 < m
 mle:m<=10000
 ult: ∀ x∈U,x < BB
 vlt: ∀ x∈V,x < BB
 v1:0 < V.getD (m - 1) 0
 lt:Num.bv BB U < BB*Num.bv BB V
 rd: ∀ g,OkX h k g->Rd g 103 (.slice b m d) (V.map uv)
def vZ (h:Heap)(k off:Nat)(cs:List Value)(m:Nat)(U V:List Nat):VH:=fun v h'=> ∃ W:List Nat,W.length=m+1/\(∀ x∈W,x < BB)/\Num.bv BB W=Num.bv BB U % Num.bv BB V/\v=uv (Num.bv BB U / Num.bv BB V)/\h'.get k=some (.cells (ba cs off W) 103 1 true)/\OkX h k h'
theorem yx {h:Heap}{k off c m:Nat}{cs:List Value}{U V:List Nat}{b:Option Addr}{d:Nat}(D:DigIn h k off c m cs U V b d):
  FW SS 176 [.slice (some ⟨k,off,none⟩) (m+1) c,.slice b m d] h (vZ h k off cs m U V):=by
 have hBv:BB=1000000000:=rfl;have hul:=D.ul;have hvl:=D.vl;have hmp:=D.mp;have hmle:=D.mle;have hB0:0 < BB:=by decide
 have ug: ∀ i,U.getD i 0 < BB:=fun i=>Num.getD_lt hB0 D.ult i;have vg: ∀ i,V.getD i 0 < BB:=fun i=>Num.getD_lt hB0 D.vlt i;have hw1:wrap .i64 ((m:Int) - 1)=((m - 1:Nat):Int):=by rw [aq (by omega) (by omega)]; omega
 have hw2:1 < m->wrap .i64 ((m:Int) - 2)=((m - 2:Nat):Int):=fun hm=>by rw [aq (by omega) (by omega)]; omega
 have hwm:wrap .i64 ((m:Int)+1)=(m:Int)+1:=aq (by omega) (by omega);have wi: ∀ i:Nat,i<=m->wrap .i64 ((i:Int)+1)=((i+1:Nat):Int):=fun i hi=>by rw [aq (by omega) (by omega)]; omega
 have L3:=fun (qn:Nat) (W:List Nat) (hq0:0 < qn) (hqB:qn < BB) (hwl:W.length=m+1) (hwlt: ∀ x∈W,x < BB) (hq:qn - 1=Num.bv BB U / Num.bv BB V) (hres:Num.bv BB (Num.eachF (Num.plusF BB) W V 0 (m+1) 0)=Num.bv BB U % Num.bv BB V)=>
  mJ (some ⟨k,off,none⟩) (m+1) c b m d (qn:Int) ((m:Int)+1) (fun mz i cy g=>i<=m+1/\mz=m+1 - i/\cy=(Num.cr (Num.plusF BB) W V 0 0 i:Nat)/\g.get k=some (.cells (ba cs off (Num.eachF (Num.plusF BB) W V 0 i 0++W.drop i)) 103 1 true)/\OkX h k g) (vZ h k off cs m U V) (by
  intro mz i cy; intros; rename_i g hi;obtain ⟨h1,h2,rfl,hg,ok⟩:=hi;have hel:(Num.eachF (Num.plusF BB) W V 0 i 0).length=i:=Num.eachF_len _ _ _ _ _ _;have hsn:=Num.eachF_snoc (Num.plusF BB) W V i 0 0;rw [zero_add] at hsn;have hcr1:Num.cr (Num.plusF BB) W V 0 0 (i+1)=(Num.plusF BB (W.getD i 0) (V.getD i 0) (Num.cr (Num.plusF BB) W V 0 0 i)).2:=by
   show (Num.plusF BB (W.getD (0+i) 0) (V.getD (0+i) 0) _).2=_;rw [zero_add]
  have wg:W.getD i 0 < BB:=Num.getD_lt hB0 hwlt i;have hcb:Num.cr (Num.plusF BB) W V 0 0 i<=1:=by
   clear hcr1 hsn hel hg h2 h1
   induction i with
   | zero=>exact zero_le _
   | succ j ih=>
    have a1:=Num.getD_lt (b:=BB) hB0 hwlt (0+j);have a2:=vg (0+j);have a3:=ih (Num.getD_lt hB0 hwlt j);show (W.getD (0+j) 0+V.getD (0+j) 0+Num.cr (Num.plusF BB) W V 0 0 j) / BB<=1;have:(W.getD (0+j) 0+V.getD (0+j) 0+Num.cr (Num.plusF BB) W V 0 0 j) / BB < 2:=div_lt_of_lt_mul (by omega);omega
  have hvi:=vg i;have hlen:(Num.eachF (Num.plusF BB) W V 0 i 0++W.drop i).length=m+1:=by rw [length_append,hel,length_drop]; omega
  have hfit:=D.fit;refine ae (fun h5=> ?_) (fun h5=> ?_)
  ·have h5:=dT h5;have hl:=rX hg (by rw [hlen]; omega) (i:=i) (by rw [hlen]; omega);rw [Num.getD_front _ _ hel] at hl;have hkn:=ok.wf _ _ hg;have step: ∀ (s:Nat),s=W.getD i 0+V.getD i 0+Num.cr (Num.plusF BB) W V 0 0 i->
     ai SS.P 103 (.pointer (some ⟨k,off+i,none⟩)) (.int .u64 ((s % BB:Nat):Int)) g=some (undef,.set k (.cells (ba cs off (Num.eachF (Num.plusF BB) W V 0 (i+1) 0++W.drop (i+1))) 103 1 true)):=fun s hs=>by
    rw [sU hg (by rw [hlen]; omega) (by rw [hlen]; omega),Num.set_front _ _ hel (by omega),hsn,hs]; rfl
   refine ⟨_,oH (by omega) (by omega),_,by rw [toNat_natCast]; exact hl,?_⟩;have e1:wrap .u64 (((W.getD i 0:Nat):Int)+((Num.cr (Num.plusF BB) W V 0 0 i:Nat):Int))=((W.getD i 0+Num.cr (Num.plusF BB) W V 0 0 i:Nat):Int):=wU (by omega) (by omega);dsimp only;rw [e1,wi i (by omega)];refine ae (fun h6=> ?_) (fun h6=> ?_)
   ·have h6:=dT h6;obtain ⟨p,g2,g3⟩:=vw (D.rd g ok) (i:=(i:Int)) (by omega) (by omega);rw [toNat_natCast] at g3;refine ⟨p,g2,_,g3,?_⟩;have e2:wrap .u64 (((W.getD i 0+Num.cr (Num.plusF BB) W V 0 0 i:Nat):Int)+((V.getD i 0:Nat):Int))=((W.getD i 0+V.getD i 0+Num.cr (Num.plusF BB) W V 0 0 i:Nat):Int):=wU (by omega) (by omega);dsimp only;rw [e2];refine ⟨_,rL,_,uM (by omega),_,oH (by omega) (by omega),_,by rw [toNat_natCast]; exact step _ rfl,?_⟩;refine iL (mz - 1) (by omega) ⟨by omega,by omega,by rw [hcr1]; rfl,?_,ok.set hkn _⟩;show (g.set k _).get k=_;rw [Heap.get_set,if_pos rfl]
   ·have h6:=dF h6;have hv0:V.getD i 0=0:=by rw [gD,getElem?_eq_none (by omega)]; rfl
    refine ⟨_,rL,_,uM (by omega),_,oH (by omega) (by omega),_,by rw [toNat_natCast]; exact step _ (by omega),?_⟩;refine iL (mz - 1) (by omega) ⟨by omega,by omega,?_,?_,ok.set hkn _⟩
    ·rw [hcr1];show _=(((W.getD i 0+V.getD i 0+Num.cr (Num.plusF BB) W V 0 0 i) / BB:Nat):Int);rw [hv0,add_zero]
    ·show (g.set k _).get k=_;rw [Heap.get_set,if_pos rfl]
  ·have h5:=dF h5;obtain rfl:i=m+1:=by omega
   have e3:wrap .u64 ((qn:Int) - 1)=((qn - 1:Nat):Int):=wU (by omega) (by omega);rw [e3];rw [drop_of_length_le (by omega),List.append_nil] at hg;exact ⟨_,hel,Num.eachF_lt (fun p q c=>mod_lt _ hB0) _ _ _ _ _,hres,by rw [hq]; rfl,hg,ok⟩)
 have L2:=fun (qn:Nat) (hqB:qn < BB) (hhi:Num.bv BB U < (qn+1)*Num.bv BB V) (hlo:qn*Num.bv BB V < Num.bv BB U+Num.bv BB V)=>
  mD (some ⟨k,off,none⟩) (m+1) c b m d (qn:Int) ((m:Int)+1) (fun mz i bo cy g=>i<=m+1/\mz=m+1 - i/\bo=((Num.subL BB qn U V 0 i 0 0).2.1:Nat)/\cy=((Num.subL BB qn U V 0 i 0 0).2.2:Nat)/\g.get k=some (.cells (ba cs off ((Num.subL BB qn U V 0 i 0 0).1++U.drop i)) 103 1 true)/\OkX h k g) (vZ h k off cs m U V) (by
  intro mz i bo cy; intros; rename_i g hi;obtain ⟨h1,h2,rfl,rfl,hg,ok⟩:=hi;have hel:(Num.subL BB qn U V 0 i 0 0).1.length=i:=Num.subL_len _ _ _ _ _ _ _ _;have hsn:=Num.subL_snoc BB qn U V i 0 0 0;rw [zero_add] at hsn;have hbo:=Num.subL_borrow (q:=qn) (v:=V) cX D.ult i;have hcy:=Num.subL_carry_lt cX hqB (u:=U) D.vlt i;generalize hst:Num.subL BB qn U V 0 i 0 0=st at *;obtain ⟨Wl,bo,cy⟩:=st;dsimp only at hel hg hbo hcy hsn ⊢;have hlen:(Wl++U.drop i).length=m+1:=by rw [length_append,hel,length_drop]; omega
  have hfit:=D.fit;have hui:=ug i;have hvi:=vg i;have hqv:qn*V.getD i 0<=999999999*999999999:=mul_le_mul (by omega) (by omega);refine ae (fun h5=> ?_) (fun h5=> ?_)
  ·have h5:=dT h5;have hl:=rX hg (by rw [hlen]; omega) (i:=i) (by rw [hlen]; omega);rw [Num.getD_front _ _ hel] at hl;have hkn:=ok.wf _ _ hg;have step: ∀ (s:Nat),s=qn*V.getD i 0+cy->
     ai SS.P 103 (.pointer (some ⟨k,off+i,none⟩)) (.int .u64 (((U.getD i 0+BB - s % BB - bo) % BB:Nat):Int)) g=some (undef,.set k (.cells (ba cs off ((Num.subL BB qn U V 0 (i+1) 0 0).1++U.drop (i+1))) 103 1 true)):=fun s hs=>by
    rw [sU hg (by rw [hlen]; omega) (by rw [hlen]; omega),Num.set_front _ _ hel (by omega),hsn,hs]; rfl
   have rest: ∀ (s:Nat),s=qn*V.getD i 0+cy-> ∀ (p21:Addr),p21=⟨k,off+i,none⟩->
     ∃ n23:Int,ak SS.P .rem 103 (.int .u64 (s:Int)) (.int .u64 1000000000)=some (.int .u64 n23)/\n23=((s % BB:Nat):Int):=fun s _ _ _=>⟨_,rL,rfl⟩
   rw [wi i (by omega)];have fin: ∀ (s:Nat),s=qn*V.getD i 0+cy->((1 - (U.getD i 0+BB - s % BB - bo) / BB:Nat):Int)=((Num.subL BB qn U V 0 (i+1) 0 0).2.1:Nat)/\((s / BB:Nat):Int)=((Num.subL BB qn U V 0 (i+1) 0 0).2.2:Nat):=fun s hs=>by
    rw [hsn,hs]; exact ⟨rfl,rfl⟩
   have ed: ∀ s:Nat,wrap .u64 (wrap .u64 (wrap .u64 (((U.getD i 0:Nat):Int)+1000000000) - ((s % BB:Nat):Int)) - (bo:Int))=((U.getD i 0+BB - s % BB - bo:Nat):Int):=fun s=>by
    have hm:=mod_lt s hB0;generalize s % BB=z at hm;have a1:wrap .u64 (((U.getD i 0:Nat):Int)+1000000000)=((U.getD i 0+BB:Nat):Int):=wU (by omega) (by omega);have a2:wrap .u64 (((U.getD i 0+BB:Nat):Int) - (z:Int))=((U.getD i 0+BB - z:Nat):Int):=wU (by omega) (by omega);have a3:wrap .u64 (((U.getD i 0+BB - z:Nat):Int) - (bo:Int))=((U.getD i 0+BB - z - bo:Nat):Int):=wU (by omega) (by omega);rw [a1,a2,a3]
   have e1b: ∀ s:Nat,wrap .u64 (1 - (((U.getD i 0+BB - s % BB - bo) / BB:Nat):Int))=((1 - (U.getD i 0+BB - s % BB - bo) / BB:Nat):Int):=fun s=>by
    have h9:(U.getD i 0+BB - s % BB - bo) / BB < 2:=div_lt_of_lt_mul (by omega);generalize (U.getD i 0+BB - s % BB - bo) / BB=z at h9 ⊢;exact wU (by omega) (by omega)
   refine ae (fun h6=> ?_) (fun h6=> ?_)
   ·have h6:=dT h6;obtain ⟨p,g2,g3⟩:=vw (D.rd g ok) (i:=(i:Int)) (by omega) (by omega);rw [toNat_natCast] at g3;refine ⟨p,g2,_,g3,_,oH (by omega) (by omega),_,by rw [toNat_natCast]; exact hl,?_⟩;have e2:wrap .u64 ((cy:Int)+wrap .u64 ((qn:Int)*((V.getD i 0:Nat):Int)))=((qn*V.getD i 0+cy:Nat):Int):=by
     have e0:wrap .u64 ((qn:Int)*((V.getD i 0:Nat):Int))=((qn*V.getD i 0:Nat):Int):=wU (by rw [Int.natCast_mul]) (by omega);rw [e0];exact wU (by omega) (by omega)
    rw [e2];refine ⟨_,rL,?_⟩;dsimp only;rw [ed];have hm:=mod_lt (qn*V.getD i 0+cy) hB0;refine ⟨_,rL,_,uM (by omega),_,uM (by omega),_,oH (by omega) (by omega),_,by rw [toNat_natCast]; exact step _ rfl,?_⟩;rw [e1b];refine xu (mz - 1) (by omega) ⟨by omega,by omega,(fin _ rfl).1,(fin _ rfl).2,?_,ok.set hkn _⟩;show (g.set k _).get k=_;rw [Heap.get_set,if_pos rfl]
   ·have h6:=dF h6;have hv0:V.getD i 0=0:=by rw [gD,getElem?_eq_none (by omega)]; rfl
    have hs0:cy=qn*V.getD i 0+cy:=by rw [hv0,mul_zero,zero_add]
    refine ⟨_,oH (by omega) (by omega),_,by rw [toNat_natCast]; exact hl,_,rL,?_⟩;dsimp only;rw [ed];have hm:=mod_lt cy hB0;refine ⟨_,rL,_,uM (by omega),_,uM (by omega),_,oH (by omega) (by omega),_,by rw [toNat_natCast]; exact step _ hs0,?_⟩;rw [e1b];refine xu (mz - 1) (by omega) ⟨by omega,by omega,(fin _ hs0).1,(fin _ hs0).2,?_,ok.set hkn _⟩;show (g.set k _).get k=_;rw [Heap.get_set,if_pos rfl]
  ·have h5:=dF h5;obtain rfl:i=m+1:=by omega
   obtain ⟨d0,d1,d2⟩:=Num.digit_done cX D.ult D.vlt D.ul D.vl hqB hhi hlo;have hwlt:=Num.subL_lt (q:=qn) cX U V (m+1) 0 0 0;rw [hst] at d0 d1 d2 hwlt;dsimp only at d0 d1 d2 hwlt;rw [drop_of_length_le (by omega),List.append_nil] at hg;refine ae (fun h6=> ?_) (fun h6=> ?_)
   ·have h6:(bo:Int)=0:=by simpa using h6
    obtain ⟨e1,e2⟩:=d1 (by omega);exact ⟨Wl,hel,hwlt,e2,by rw [e1]; rfl,hg,ok⟩
   ·have h6: ¬ (bo:Int)=0:=by simpa using h6
    obtain ⟨e0,e1,e2⟩:=d2 (by omega);rw [hwm];exact L3 qn Wl e0 hqB hel hwlt e1 e2 (m+1) (i:=0) ⟨by omega,by omega,rfl,by simpa [Num.eachF] using hg,ok⟩)
 have hv1:=D.v1;have htop:U.getD m 0*BB+U.getD (m - 1) 0 < 1000000000000000000:=by
  have a1:=ug m;have a2:=ug (m - 1);have a3:U.getD m 0*BB=1000000000*U.getD m 0:=by rw [hBv,mul_comm]
  omega
 have L1:=mF (some ⟨k,off,none⟩) (m+1) c b m d (fun mz q rest g=> ∃ qn rn:Nat,q=(qn:Int)/\rest=(rn:Int)/\mz=qn/\Num.Trial BB m U V qn rn/\g.get k=some (.cells (ba cs off U) 103 1 true)/\OkX h k g) (vZ h k off cs m U V) (by
  intro mz q rest; intros; rename_i g hi;obtain ⟨qn,rn,rfl,rfl,rfl,T,hg,ok⟩:=hi;have hT:=T.eq;have hfit:=D.fit;have hrl:rn < 1000000000000000000:=Nat.lt_of_le_of_lt (by rw [<-hT]; omega) htop;have hql:mz < 1000000000000000000:=by
   refine Nat.lt_of_le_of_lt ?_ htop;rw [<-hT];have:=Nat.le_mul_of_pos_right mz hv1;omega
  have ok':=ok.room 28;have hg':(room g 28).get k=some (.cells (ba cs off U) 103 1 true):=hg;have hv1B:=vg (m - 1);have hj:((m - 1:Nat):Int).toNat=m - 1:=by omega
  obtain ⟨p1,g2,g3⟩:=vw (D.rd _ ok') (i:=((m - 1:Nat):Int)) (by omega) (by omega);rw [hj] at g3;have er:wrap .u64 ((rn:Int)+((V.getD (m - 1) 0:Nat):Int))=((rn+V.getD (m - 1) 0:Nat):Int):=wU (by omega) (by omega);have leave: ∀ (qn':Nat),qn' < BB->Num.bv BB U < (qn'+1)*Num.bv BB V->qn'*Num.bv BB V < Num.bv BB U+Num.bv BB V->_:=fun qn' h1 h2 h3=>L2 qn' h1 h2 h3;have low:Num.bv BB U < mz*Num.bv BB V->0 < mz/\Num.Trial BB m U V (mz - 1) (rn+V.getD (m - 1) 0):=fun hl=>⟨by
   rcases eq_zero_or_pos mz with e | e
   ·subst e; rw [Nat.zero_mul] at hl; omega
   ·exact e,T.lower hl⟩
  have broke:mz - 1 < BB->BB<=rn+V.getD (m - 1) 0->Num.Trial BB m U V (mz - 1) (rn+V.getD (m - 1) 0)->(mz - 1)*Num.bv BB V < Num.bv BB U+Num.bv BB V:=fun h1 h2 T'=>
   T'.last cX D.ul D.vl hmp D.vlt hv1 h1 fun _=>Num.trial_broke h1 (vg (m - 2)) h2
  have body:Num.bv BB U < mz*Num.bv BB V->True:=fun _=>trivial;rw [hw1];refine ae (fun h5=> ?_) (fun h5=> ?_)
  ·have h5:=dT h5;obtain ⟨hq0,T'⟩:=low (Num.Trial.great D.lt (by omega));have eq1:wrap .u64 ((mz:Int) - 1)=((mz - 1:Nat):Int):=wU (by omega) (by omega);rw [eq1];refine ⟨p1,g2,_,g3,?_⟩;dsimp only;rw [er];generalize hzz:decide (((mz - 1:Nat):Int) < 1000000000)=bz;refine ae (fun h6=>ae (fun h7=> ?_) (fun h7=> ?_)) (fun h6=> ?_)
   ·subst hzz;have h6:=dT h6;have h7:=dT h7;rw [hwm];exact L2 (mz - 1) (by omega) T'.hi (broke (by omega) (by omega) T') (m+1) (i:=0) ⟨by omega,by omega,rfl,rfl,by simpa [Num.subL] using hg',ok'⟩
   ·exact iL (mz - 1) (by omega) ⟨mz - 1,_,rfl,rfl,rfl,T',hg',ok'⟩
   ·exact iL (mz - 1) (by omega) ⟨mz - 1,_,rfl,rfl,rfl,T',hg',ok'⟩
  ·have h5:=dF h5;have hqB:mz < BB:=by omega
   have done:(1 < m->mz*V.getD (m - 2) 0<=rn*BB+U.getD (m - 2) 0)->mz*Num.bv BB V < Num.bv BB U+Num.bv BB V:=fun hs=>T.last cX D.ul D.vl hmp D.vlt hv1 hqB hs;refine ae (fun h6=> ?_) (fun h6=> ?_)
   ·have h6:=dT h6;have hm1:1 < m:=by omega
    rw [hw2 hm1];generalize hzz:decide ((rn:Int) < 1000000000)=bz;refine ae (fun h7=> ?_) (fun h7=> ?_)
    ·subst hzz;have h7:=dT h7;have hj2:((m - 2:Nat):Int).toNat=m - 2:=by omega
     obtain ⟨p2,g4,g5⟩:=vw (D.rd _ ok') (i:=((m - 2:Nat):Int)) (by omega) (by omega);rw [hj2] at g5;have hl:=rX hg' hfit (i:=m - 2) (by omega);refine ⟨p2,g4,_,g5,_,oH (by omega) (by omega),_,by rw [hj2]; exact hl,?_⟩;have hv2:=vg (m - 2);have hu2:=ug (m - 2);have hqv:mz*V.getD (m - 2) 0<=999999999*999999999:=mul_le_mul (by omega) (by omega);have ea:wrap .u64 ((mz:Int)*((V.getD (m - 2) 0:Nat):Int))=((mz*V.getD (m - 2) 0:Nat):Int):=wU (by rw [Int.natCast_mul]) (by omega);obtain ⟨RB,hRB⟩: ∃ x,x=rn*BB:=⟨_,rfl⟩
     have hRB':RB=1000000000*rn:=by rw [hRB,hBv,mul_comm]
     obtain ⟨MV,hMV⟩: ∃ x,x=mz*V.getD (m - 2) 0:=⟨_,rfl⟩
     rw [<-hMV] at hqv ea;have eb:wrap .u64 ((rn:Int)*1000000000)=(RB:Int):=wU (by omega) (by omega);have ec:wrap .u64 ((RB:Int)+((U.getD (m - 2) 0:Nat):Int))=((RB+U.getD (m - 2) 0:Nat):Int):=wU (by omega) (by omega);dsimp only;rw [ea,eb,ec];generalize hyy:decide ((MV:Int) > ((RB+U.getD (m - 2) 0:Nat):Int))=by_;refine ae (fun h8=> ?_) (fun h8=> ?_)
     ·subst hyy;have h8:=dT h8;obtain ⟨hq0,T'⟩:=low (T.second D.ul D.vl hm1 D.ult (by rw [<-hRB,<-hMV]; omega));have eq1:wrap .u64 ((mz:Int) - 1)=((mz - 1:Nat):Int):=wU (by omega) (by omega);rw [eq1];refine ⟨p1,g2,_,g3,?_⟩;dsimp only;rw [er];generalize hxx:decide (((mz - 1:Nat):Int) < 1000000000)=bx;refine ae (fun h9=>ae (fun h10=> ?_) (fun h10=> ?_)) (fun h9=> ?_)
      ·have h9:=dT h9;rw [hwm];exact L2 (mz - 1) (by omega) T'.hi (broke (by omega) (by omega) T') (m+1) (i:=0) ⟨by omega,by omega,rfl,rfl,by simpa [Num.subL] using hg',ok'⟩
      ·exact iL (mz - 1) (by omega) ⟨mz - 1,_,rfl,rfl,rfl,T',hg',ok'⟩
      ·exact iL (mz - 1) (by omega) ⟨mz - 1,_,rfl,rfl,rfl,T',hg',ok'⟩
     ·subst hyy;have h8:=dF h8;rw [hwm];exact L2 mz hqB T.hi (done fun _=>by rw [<-hRB,<-hMV]; omega) (m+1) (i:=0) ⟨by omega,by omega,rfl,rfl,by simpa [Num.subL] using hg',ok'⟩
    ·subst hzz;have h7:=dF h7;rw [hwm];exact L2 mz hqB T.hi (done fun _=>Num.trial_broke hqB (vg (m - 2)) (by omega)) (m+1) (i:=0) ⟨by omega,by omega,rfl,rfl,by simpa [Num.subL] using hg',ok'⟩
   ·have h6:=dF h6;rw [hwm];exact L2 mz hqB T.hi (done fun hm=>by omega) (m+1) (i:=0) ⟨by omega,by omega,rfl,rfl,by simpa [Num.subL] using hg',ok'⟩)
 have ok1:=(OkX.refl (k:=k) D.w).room 12;have ok2:=ok1.room 16;have hfit:=D.fit;have hj:((m - 1:Nat):Int).toNat=m - 1:=by omega
 have hl1:=rX (g:=room h 12) D.get hfit (i:=m) (by omega);have hl2:=rX (g:=room h 12) D.get hfit (i:=m - 1) (by omega);obtain ⟨p1,g2,g3⟩:=vw (D.rd _ ok2) (i:=((m - 1:Nat):Int)) (by omega) (by omega);rw [hj] at g3;have a1:=ug m;have a2:=ug (m - 1);refine yN _ _ _ _ _ _ h _ ⟨_,oH (by omega) (by omega),_,by rw [toNat_natCast]; exact hl1,?_⟩;rw [hw1];refine ⟨_,oH (by omega) (by omega),_,by rw [hj]; exact hl2,p1,g2,_,g3,?_⟩;obtain ⟨TB,hTB⟩: ∃ x,x=U.getD m 0*BB:=⟨_,rfl⟩
 have hTB':TB=1000000000*U.getD m 0:=by rw [hTB,hBv,mul_comm]
 have ea:wrap .u64 (((U.getD m 0:Nat):Int)*1000000000)=(TB:Int):=wU (by omega) (by omega);have eb:wrap .u64 ((TB:Int)+((U.getD (m - 1) 0:Nat):Int))=((TB+U.getD (m - 1) 0:Nat):Int):=wU (by omega) (by omega);rw [ea,eb];have hstart:=Num.Trial.start cX D.ul D.vl hmp D.ult hv1;rw [<-hTB] at hstart;refine ⟨_,Gt (by omega) hv1,p1,g2,_,g3,_,KD hv1,?_⟩;exact L1 _ ⟨_,_,rfl,rfl,rfl,hstart,D.get,ok2⟩
theorem OwnR.weak {h0 h1 h:Heap}{e:TypeId}{v:Value}{vs:List Value}(hn:h0.next<=h1.next)(o:OwnR h1 h e v vs):OwnR h0 h e v vs:=by
 rcases o with o | ⟨k,cs,h1',h2,h3,h4,h5⟩
 ·exact .inl o
 ·exact .inr ⟨k,cs,h1',le_trans hn h2,h3,h4,h5⟩
theorem Ll (k:Int):dY SS.P 103 (.int .u64 k)=some (.cells [.int .u64 k] 103 0 true,gb):=by kernel_rfl
theorem pi {h:Heap}{a:Option Addr}{n c:Nat}{x:List Nat}(ra:Rd h 103 (.slice a n c) (x.map uv))(hx: ∀ d∈x,d < BB)(hlen:x.length<=10000){k:Nat}(hk0:0 < k)(hk:k<=BB)(w:Wf h):
  FW SS 175 [.slice a n c,.int .u64 (k:Int)] h (fD h 103 (bl (Num.bv BB x*k))):=by
 have ok:=(Ok.refl w).push (.cells [.int .u64 (k:Int)] 103 0 true);refine wE a n c _ h _ ⟨_,Ll _,?_⟩;have hp:ah SS.P 103 (h.push (.cells [.int .u64 (k:Int)] 103 0 true)) (.pointer (some ⟨h.next,0,none⟩))=some (.int .u64 (k:Int)):=by
  unfold ah;rw [CU]; dsimp only;rw [Heap.get_push,if_pos rfl]; dsimp only;rw [CP]; rfl
 refine (uc (ra.ok ok) hx hlen hp hk0 hk ok.wf).mono ?_;rintro _ h3 ⟨a4,n5,c6,rfl,o,ok3⟩;exact ⟨a4,n5,c6,rfl,a4,n5,c6,rfl,OwnR.weak (Nat.le_succ _) o,ok.trans ok3⟩
def RowC (h:Heap)(k off n c:Nat)(l:List Nat):Prop:= ∃ cs wr,h.get k=some (.cells cs 103 1 wr)/\n=l.length/\(cs.drop off).take n=l.map uv/\n<=aI c
theorem RowC.rd {h:Heap}{k off n c:Nat}{l:List Nat}(r:RowC h k off n c l):Rd h 103 (.slice (some ⟨k,off,none⟩) n c) (l.map uv):=by
 obtain ⟨cs,wr,h1,rfl,h3,h4⟩:=r;exact .inr ⟨k,off,cs,c,wr,by rw [lM],h1,by rw [lM]; exact h3⟩
theorem RowC.take {h:Heap}{k off n c:Nat}{l:List Nat}(r:RowC h k off n c l){j:Nat}(hj:j<=n):bh SS.P 136 (.slice (some ⟨k,off,none⟩) n c) none (some (.int .i64 (j:Int))) none h=some (.slice (some ⟨k,off,none⟩) j c)/\RowC h k off j c (l.take j):=by
 obtain ⟨cs,wr,h1,rfl,h3,h4⟩:=r;refine ⟨?_,cs,wr,h1,by rw [length_take]; omega,?_,by omega⟩
 ·unfold bh;dsimp only;rw [qP];dsimp only [bZ];rw [sL,h1];dsimp only;have e2:((j:Int) - ((0:Nat):Int)).toNat=j:=by omega
  have e0:((0:Nat):Int).toNat=0:=rfl;rw [if_pos (by simp),if_pos (by omega),e2,e0]; rfl
 ·have:=congrArg (List.take j) h3;rwa [take_take,min_eq_left hj,<-map_take] at this
theorem i8 {h:Heap}{k off n c:Nat}{l:List Nat}(r:RowC h k off n c l)(hlen:l.length<=100000):
  FW SS 142 [.slice (some ⟨k,off,none⟩) n c] h (fun v h'=>v = .slice (some ⟨k,off,none⟩) (Num.trimL l).length c/\h'=h):=by
 have hn:n=l.length:=by obtain ⟨_,_,_,h2,_⟩:=r; exact h2
 have L:=iB (some ⟨k,off,none⟩) n c (fun mz r m d g=>m<=l.length/\mz=m/\r=some ⟨k,off,none⟩/\d=c/\RowC h k off m c (l.take m)/\Num.trimL l=Num.trimL (l.take m)/\g=h) (fun v h'=>v = .slice (some ⟨k,off,none⟩) (Num.trimL l).length c/\h'=h) (by
  intro mz r m d; intros; rename_i g hi;obtain ⟨h1,rfl,rfl,rfl,h3,h4,rfl⟩:=hi;have hw:wrap .i64 ((mz:Int) - 1)=(mz:Int) - 1:=aq (by omega) (by omega);rw [hw];have hm:mz≠0->l.take mz=l.take (mz - 1)++[l.getD (mz - 1) 0]:=fun hm=>by
   obtain ⟨j,rfl⟩: ∃ j,mz=j+1:=⟨mz - 1,by omega⟩
   rw [List.take_succ_eq_append_getElem (by omega),add_sub_cancel,gD,gE (by omega)]; rfl
  refine ae (fun h5=> ?_) (fun h5=> ?_)
  ·have h5:=dT h5;obtain ⟨p,g2,g3⟩:=vw h3.rd (i:=(mz:Int) - 1) (by omega) (by rw [length_take]; omega);have e1:(l.take mz).getD ((mz:Int) - 1).toNat 0=l.getD (mz - 1) 0:=by
    rw [show ((mz:Int) - 1).toNat=mz - 1 by omega,gD,List.getElem?_take,if_pos (by omega),gD]
   rw [e1] at g3;refine ⟨p,g2,_,g3,ae (fun h6=> ?_) (fun h6=> ?_)⟩
   ·have h6:((l.getD (mz - 1) 0:Nat):Int)=0:=by simpa using h6
    have h6:l.getD (mz - 1) 0=0:=by omega
    obtain ⟨g4,g5⟩:=h3.take (j:=mz - 1) (by omega);rw [show ((mz:Int) - 1)=((mz - 1:Nat):Int) by omega];refine ⟨_,_,_,g4,xu (mz - 1) (by omega) ⟨by omega,rfl,rfl,rfl,?_,?_,rfl⟩⟩
    ·rw [take_take,min_eq_left (by omega)] at g5;exact g5
    ·rw [h4,hm (by omega),h6,Num.trimL_snoc_zero]
   ·have h6: ¬ ((l.getD (mz - 1) 0:Nat):Int)=0:=by simpa using h6
    refine ⟨?_,rfl⟩;rw [h4,hm (by omega),Num.trimL_snoc_pos _ (by omega),<-hm (by omega),length_take,min_eq_left h1]
  ·have h5:=dF h5;obtain rfl:mz=0:=by omega
   refine ⟨?_,rfl⟩;rw [h4]; rfl)
 exact tG _ n c h _ (L n ⟨by omega,rfl,rfl,rfl,by rw [show l.take n=l by rw [hn,take_length]]; exact r,by rw [show l.take n=l by rw [hn,take_length]],rfl⟩)
end Go.Proofs.YtoabjjimjldcfaaGreatDoor
end
section
namespace Go.Ab
open Go
theorem OwnR.snocX {P:Program}{t e:TypeId}{i:TypeInfo}(hU:P.underlying t=some (.slice e))(hE:dA P e=some i)(hs:i.size=1){h0 h:Heap}(w0:Wf h0)(a:Ok h0 h){v:Value}{vs:List Value}(o:OwnR h0 h e v vs){x:Value}(hx:bI x=true)(hl:(vs.length+1)*i.bytes<=70368744177664)(hl2:vs.length+1<=1099511627776):
  ∃ (b:Option Addr)(n c:Nat)(u:Upd),aJ P t t v (gH 1 1 h.next) (h.push (.cells [x] e 1 true))=some (.slice b n c,u)/\n=vs.length+1/\OwnR h0 (u.app (h.push (.cells [x] e 1 true))) e (.slice b n c) (vs++[x])/\Ok h0 (u.app (h.push (.cells [x] e 1 true)))/\
   (∀ j B,h.get j=some B->(∀ o n c,v≠ .slice (some ⟨j,o,none⟩) n c)->(u.app (h.push (.cells [x] e 1 true))).get j=some B)/\
   (∀ j o m d,Value.slice b n c = .slice (some ⟨j,o,none⟩) m d->h.next<=j\/ ∃ o n c,v = .slice (some ⟨j,o,none⟩) n c):=by
 have hT:ca P t=true:=by unfold ca; rw [hU]
 have hsrc:cz (h.push (.cells [x] e 1 true)) i.size (gH 1 1 h.next)=some ([x],1):=by
  show (match (h.push (.cells [x] e 1 true)).get h.next with | some (.cells cs ..)=>if ((cs.drop 0).take (1*i.size)).length=1*i.size then some ((cs.drop 0).take (1*i.size),1) else none | _=>none)=_;rw [Heap.get_push,if_pos rfl,hs]; rfl
 have hap:=OwnR.push a o (.cells [x] e 1 true);have a':=a.push (.cells [x] e 1 true);have old: ∀ j B,h.get j=some B->(h.push (.cells [x] e 1 true)).get j=some B:=fun j B hj=>by
  rw [Heap.get_push,if_neg (fun e=>by have:=a.wf _ _ hj; omega)]; exact hj
 have oldn: ∀ j B,h.get j=some B->j < h.next:=fun j B hj=>a.wf _ _ hj;generalize hh:h.push (.cells [x] e 1 true)=g at *;have hgn:h.next < g.next:=by rw [<-hh]; exact Nat.lt_succ_self _
 unfold aJ;rw [hU]; dsimp only;rw [hE]; dsimp only;rw [if_pos hT,hsrc]; dsimp only;rw [if_pos (by simp [hx,hs])];rcases hap with ⟨rfl,rfl⟩ | ⟨k,cs,rfl,h2,h3,h4,h5⟩
 ·show ∃ b n c u,(if 1=0 then some (Value.slice none 0 0,Upd.no) else if 1*i.bytes<=70368744177664/\1<=1099511627776 then some (Value.slice (some ⟨g.next,0,none⟩) 1 (bj+1),Upd.push (.cells [x] e i.size true)) else none)=_/\_;rw [if_neg (by omega),if_pos (by simpa using And.intro hl hl2)];refine ⟨_,_,_,_,rfl,rfl,.inr ⟨g.next,[x],rfl,a'.nx,?_,rfl,by simp⟩,a'.push _,fun j B hj _=> ?_,fun j o m d e=> .inl ?_⟩
  rotate_left
  ·show (g.push _).get j=_;rw [Heap.get_push,if_neg (fun e=>by have:=oldn _ _ hj; omega)];exact old _ _ hj
  ·injection e with e1 e2 e3
   injection e1 with e1
   injection e1 with e1
   omega
  show (g.push (.cells [x] e i.size true)).get g.next=_;rw [Heap.get_push,if_pos rfl,hs]
 ·dsimp only;rw [if_neg (by omega),hs,mul_one];have hcap:aI (bj+cs.length)=cs.length:=by unfold aI; rw [if_pos (by omega)]; omega
  rw [hcap];have hkn:=a'.wf _ _ h3;by_cases hroom:vs.length+1<=cs.length
  ·rw [if_pos hroom];unfold storeAt;rw [zero_add,h3];dsimp only;rw [if_pos ⟨by simp; omega,by simp [hx]⟩];refine ⟨_,_,_,_,rfl,rfl,.inr ⟨k,cs.take vs.length++[x]++cs.drop (vs.length+1),?_,h2,?_,?_,?_⟩,?_,fun j B hj hv=> ?_,fun j o m d e=> .inr ?_⟩
   rotate_left 5
   ·show (g.set k _).get j=_;rw [Heap.get_set,if_neg (fun e=>hv 0 _ _ (by rw [e]))];exact old _ _ hj
   ·injection e with e1 e2 e3
    injection e1 with e1
    injection e1 with e1
    exact ⟨0,_,_,by rw [<-e1]⟩
   ·simp only [length_append,List.length_cons,List.length_nil,length_take,length_drop];congr 1; omega
   ·show (g.set k _).get k=_;rw [Heap.get_set,if_pos rfl]; rfl
   ·have h6:(cs.take vs.length).length=vs.length:=by rw [length_take]; omega
    rw [length_append,append_assoc,<-append_assoc,List.take_append_of_le_length (by simp; omega),take_of_length_le (by simp; omega),h4]
   ·simp; omega
   ·exact a'.set _ h2 hkn w0
  ·rw [if_neg hroom];have hcl:cs.length=vs.length:=by omega
   unfold eZ;rw [if_pos ⟨hl,hl2⟩,h3];dsimp only;rw [mul_one,if_pos ⟨rfl,rfl,by simp; omega⟩,if_neg (by omega),if_pos ⟨rfl,by omega⟩];refine ⟨_,_,_,_,rfl,rfl,.inr ⟨g.next,vs++[x],?_,a'.nx,?_,?_,?_⟩,?_,fun j B hj hv=> ?_,fun j o m d e=> .inl ?_⟩
   rotate_left 5
   ·show ((g.del k).push _).get j=_;rw [Heap.get_push,if_neg (fun e=>by have:=oldn _ _ hj; have:j=g.next:=e; omega),Heap.get_del,if_neg (fun e=>hv 0 _ _ (by rw [e]))];exact old _ _ hj
   ·injection e with e1 e2 e3
    injection e1 with e1
    injection e1 with e1
    have:g.next=j:=e1;omega
   ·rw [length_append]; rfl
   ·show ((g.del k).push _).get g.next=_;rw [Heap.get_push,if_pos (show g.next=(g.del k).next from rfl),drop_zero,h4]
   ·exact take_length
   ·exact le_refl _
   ·refine ⟨?_,fun j C hj=> ?_,le_trans a'.nx (Nat.le_succ _)⟩
    ·refine Heap.wf_push (fun j C hj=> ?_) _;rw [Heap.get_del] at hj;split at hj
     ·cases hj
     ·exact a'.wf _ _ hj
    ·have h7:=a'.ext _ _ hj;have h8:=a'.wf _ _ h7;show ((g.del k).push _).get j=_;rw [Heap.get_push,if_neg (fun e=>by have:j=g.next:=e; omega),Heap.get_del,if_neg (fun e=>by have:=w0 _ _ hj; omega)];exact h7
end Go.Ab
end
section
namespace Go.Num
theorem trimL_take (l:List Nat):l.take (trimL l).length=trimL l/\(trimL l).length<=l.length:=by
 induction l using lZ with
 | h0=>exact ⟨rfl,le_refl _⟩
 | h1 l d ih=>
  by_cases hd:d=0
  ·subst hd;rw [trimL_snoc_zero];refine ⟨?_,by rw [length_append]; omega⟩;rw [List.take_append_of_le_length ih.2];exact ih.1
  ·rw [trimL_snoc_pos l hd,take_length];exact ⟨rfl,le_refl _⟩
theorem toB_top {B n:Nat}(hB:1 < B)(hn:0 < n):0 < (toB B n).getD ((toB B n).length - 1) 0:=by
 have h1:=(Io hB n).2;have h2:toB B n≠[]:=fun e=>by have:=(toB_eq_nil hB).1 e; omega
 rw [List.getLast?_eq_getElem?] at h1;rw [gD]
 cases h:(toB B n)[(toB B n).length - 1]? with
 | none=>
  have:=length_pos_iff.2 h2;rw [gE (by omega)] at h; cases h
 | some d=>
  rw [h] at h1;have:d≠0:=fun e=>h1 (by rw [e]);show 0 < d;omega
theorem toB_len_eq {B n m:Nat}(hB:1 < B)(h1:n < B ^ m)(h2:B ^ (m - 1)<=n)(hm:0 < m):(toB B n).length=m:=by
 refine Nat.le_antisymm (toB_len_le hB h1) ?_;rcases lt_or_ge (toB B n).length m with h | h
 ·have h3:=bv_lt (toB_lt hB n);rw [bv_toB hB] at h3;have:B ^ (toB B n).length<=B ^ (m - 1):=pow_le_pow_right (by omega) (by omega);omega
 ·exact h
theorem factor {B Y:Nat}(hB:1 < B)(hY:0 < Y):let m:=(toB B Y).length; let top:=(toB B Y).getD (m - 1) 0; let k:=B / (top+1)
  0 < m/\top < B/\0 < k/\k<=B/\B ^ (m - 1)<=Y/\Y*k < B ^ m:=by
 intro m top k;have hm:0 < m:=length_pos_iff.2 fun e=>by have:=(toB_eq_nil hB).1 e; omega
 have ht:top < B:=getD_lt (by omega) (toB_lt hB Y) _;have hk:0 < k:=Nat.div_pos (by omega) (by omega);have hlow:=nh hB hY;refine ⟨hm,ht,hk,Nat.div_le_self _ _,hlow,?_⟩;have hup:Y < (top+1)*B ^ (m - 1):=by
  have h1:=oj B (toB B Y) (m - 1) (by omega);rw [gN (show (toB B Y).length=m - 1+1 by omega),bv_toB hB] at h1;have h2:=bv_lt (b:=B) (x:=(toB B Y).take (m - 1)) (fun d hd=>toB_lt hB Y d (mem_of_mem_take hd));rw [length_take,min_eq_left (by omega)] at h2;rw [add_mul,one_mul,mul_comm top];show Y < B ^ (m - 1)*top+_;have:(toB B Y).getD (m - 1) 0=top:=rfl;rw [this] at h1;omega
 have h3:Y*k < (top+1)*B ^ (m - 1)*k:=Nat.mul_lt_mul_of_pos_right hup hk;have h4:(top+1)*k<=B:=by rw [mul_comm]; exact Nat.div_mul_le_self _ _
 have h5:(top+1)*B ^ (m - 1)*k=(top+1)*k*B ^ (m - 1):=by rw [Nat.mul_right_comm]
 have h6:(top+1)*k*B ^ (m - 1)<=B*B ^ (m - 1):=mul_le_mul_right _ h4;have h7:B*B ^ (m - 1)=B ^ m:=by rw [mul_comm,<-pow_succ]; congr 1; omega
 omega
end Go.Num
end
section
set_option linter.unusedVariables false
set_option maxRecDepth 100000
namespace Go.Proofs.YtoabjjimjldcfaaGreatDoor
open Go Go.Ab
theorem sR: ∀ n,aZ [uv 0] n=(List.replicate n 0).map uv
 | 0=>rfl
 | n+1=>by rw [aZ,sR n]; rfl
noncomputable def ti103:TypeInfo:=(SS.P.info? 103).getD default
theorem HE:SS.P.info? 103=some ti103:=by kernel_rfl
theorem BC:ti103.size=1:=by kernel_rfl
theorem yj:ti103.bytes=8:=by kernel_rfl
theorem Ki:cw SS.P 103=some (uv 0):=by kernel_rfl
theorem Ky (n:Nat)(hn:n<=100000):aX SS.P 136 (.int .i64 (n:Int)) (.int .i64 (n:Int))=some (.cells ((List.replicate n 0).map uv) 103 1 true,gH n n):=by
 unfold aX aM;dsimp only;rw [qP]
 try dsimp only
 change (match SS.P.info? 103,cw SS.P 103 with
  | some i,some z=>(if z.cells.size=i.size/\0 < i.size/\(0:Int)<=(n:Int)/\(n:Int)<=(n:Int)/\(n:Int)*i.bytes<=140737488355328/\(n:Int)<=1099511627776 then some (Blk.cells (aZ z.cells.toList (n:Int).toNat) 103 i.size true,fun k=>Value.slice (some ⟨k,0,none⟩) (n:Int).toNat (n:Int).toNat) else none)
  | _,_=>none)=_
 rw [HE,Ki];dsimp only;rw [BC,yj,if_pos ⟨rfl,by omega,by omega,Int.le_refl _,by omega,by omega⟩];have e:((n:Int)).toNat=n:=by omega
 rw [e,show (uv 0).cells.toList=[uv 0] from rfl,sR]; rfl
theorem ga {C:List Value}{off:Nat}{W:List Nat}(h:(C.drop off).take W.length=W.map uv):ba C off W=C:=by
 unfold ba;rw [<-h,append_assoc,<-List.drop_drop,take_append_drop,take_append_drop]
theorem ui {C:List Value}{U W W':List Nat}{at':Nat}(hU:at'+W'.length<=U.length)(hl:U.length<=C.length)(hw:W'.length=W.length)(hW:(U.drop at').take W.length=W):
  ba (ba C 0 U) at' W'=ba C 0 (U.take at'++W'++U.drop (at'+W'.length)):=by
 unfold ba;have h1:(C.take 0++U.map uv++C.drop (0+U.length)).take at'=(U.take at').map uv:=by
  rw [take_zero,nil_append,List.take_append_of_le_length (by rw [lM]; omega),map_take]
 have h2:(C.take 0++U.map uv++C.drop (0+U.length)).drop (at'+W'.length)=(U.drop (at'+W'.length)).map uv++C.drop (0+U.length):=by
  rw [take_zero,nil_append,List.drop_append_of_le_length (by rw [lM]; omega),List.map_drop]
 have h3:(U.take at'++W'++U.drop (at'+W'.length)).length=U.length:=by
  simp only [length_append,length_take,length_drop]; omega
 rw [h1,h2,h3,map_append,map_append,take_zero,nil_append,append_assoc,append_assoc,append_assoc]
theorem jj {C:List Value}{U:List Nat}{at' n:Nat}(hU:at'+n<=U.length):((ba C 0 U).drop at').take n=((U.drop at').take n).map uv:=by
 unfold ba;rw [take_zero,nil_append,List.drop_append_of_le_length (by rw [lM]; omega),List.take_append_of_le_length (by rw [length_drop,lM]; omega),<-List.map_drop,<-map_take]
theorem ti {C:List Value}{off:Nat}{W:List Nat}(h:off+W.length<=C.length):(ba C off W).length=C.length:=by
 unfold ba;simp only [length_append,length_take,lM,length_drop]; omega
theorem RowC.window {h:Heap}{k off n c:Nat}{l:List Nat}(r:RowC h k off n c l){lo hi:Nat}(h1:lo<=hi)(h2:hi<=n):bh SS.P 136 (.slice (some ⟨k,off,none⟩) n c) (some (.int .i64 (lo:Int))) (some (.int .i64 (hi:Int))) none h=some (.slice (some ⟨k,off+lo,none⟩) (hi - lo) (c - lo)):=by
 obtain ⟨cs,wr,h1',rfl,h3,h4⟩:=r;unfold bh;dsimp only;rw [qP];dsimp only [bZ];rw [sL,h1'];dsimp only;have e1:((hi:Int) - (lo:Int)).toNat=hi - lo:=by omega
 have e0:((lo:Nat):Int).toNat=lo:=by omega
 rw [if_pos (by simp),if_pos (by omega),e1,e0,mul_one]
structure DState (h2 G:Heap)(ku kv kq:Nat)(cu:List Value)(cv:List Value)(U Ql:List Nat)(N m XK V j:Nat):Prop where
 ok:Ok h2 G
 w2:Wf h2
 u2:h2.next<=ku
 q2:h2.next<=kq
 gu:G.get ku=some (.cells (ba cu 0 U) 103 1 true)
 gv:G.get kv=some (.cells cv 103 1 true)
 gq:G.get kq=some (.cells (ba ((List.replicate (N+1 - m) 0).map uv) 0 Ql) 103 1 true)
 uv':ku≠kv
 uq:ku≠kq
 vq:kv≠kq
 ul:U.length=N+1
 cl:N+1<=cu.length
 qlen:Ql.length=N+1 - m
 vrow:(cv.take (Num.toB BB V).length)=bl V
 inv:Num.DivInv BB m V XK U Ql j
end Go.Proofs.YtoabjjimjldcfaaGreatDoor
end
section
set_option linter.defProp false
set_option linter.unusedVariables false
set_option maxRecDepth 100000
namespace Go.Proofs.YtoabjjimjldcfaaGreatDoor
open Go Go.Ab
def wc (h:Heap)(X Y:Nat):VH:=fun v h'=> ∃ (a1:Option Addr)(n1 c1:Nat)(a2:Option Addr)(n2 c2:Nat),v = .tuple ⟨[.slice a1 n1 c1,.slice a2 n2 c2]⟩/\Rd h' 103 (.slice a1 n1 c1) (bl (X / Y))/\Rd h' 103 (.slice a2 n2 c2) (bl (X % Y))/\Ok h h'
theorem rm {g:Heap}{k n c:Nat}{C:List Value}{l:List Nat}(hg:g.get k=some (.cells (ba C 0 l) 103 1 true))(hn:n=l.length)(hc:n<=aI c):RowC g k 0 n c l:=by
 refine ⟨_,_,hg,hn,?_,hc⟩;subst hn;rw [jj (by omega),drop_zero,take_length]
theorem qj {g:Heap}{k n c:Nat}{l:List Nat}(r:RowC g k 0 n c l)(hl: ∀ d∈l,d < BB):Rd g 103 (.slice (some ⟨k,0,none⟩) (Num.trimL l).length c) (bl (Num.bv BB l)):=by
 obtain ⟨h1,h2⟩:=Num.trimL_take l;have hn:n=l.length:=by obtain ⟨_,_,_,h,_⟩:=r; exact h
 have h3:=(r.take (j:=(Num.trimL l).length) (by omega)).2.rd;rw [h1,Num.trimL_eq cX hl] at h3;rw [Num.trimL_eq cX hl];exact h3
def Jw {h:Heap}(w:Wf h){X Y ku kq rl rc L k R:Nat}{C Zq:List Value}{Ql:List Nat}(hku:h.next<=ku)(hkq:h.next<=kq)(hne:ku≠kq)(hrl:rl<=C.length)(hrl2:rl<=10000)(hL:L=Ql.length)(hL2:L<=10000)(hcap:rl<=aI rc)(hcapL:L<=aI L)(k0:0 < k)(kB:k<=BB)
  (hQ: ∀ d∈Ql,d < BB) (hq:Num.bv BB Ql=X / Y) (hr:R / k=X % Y) (a:Option Addr) (n c:Nat) (b:Option Addr) (m d:Nat):=
 lf a n c b m d (k:Int) (some ⟨kq,0,none⟩) L L (some ⟨ku,0,none⟩) rl rc (rl:Int)
  (fun mz i left g=>i<=rl/\mz=rl - i/\(∃ (r:List Nat)(ln:Nat),r.length=rl/\left=(ln:Int)/\Num.SmallInv BB k R r (rl - i) ln/\g.get ku=some (.cells (ba C 0 r) 103 1 true))/\g.get kq=some (.cells (ba Zq 0 Ql) 103 1 true)/\Ok h g) (wc h X Y) (by
  intro mz i left; intros; rename_i g hi;obtain ⟨h1,h2,⟨r,ln,hrlen,rfl,inv,hg⟩,hgq,ok⟩:=hi;have hBv:BB=1000000000:=rfl;have hw1:wrap .i64 ((rl:Int) - 1)=(rl:Int) - 1:=aq (by omega) (by omega);have hw2:wrap .i64 ((rl:Int) - 1 - (i:Int))=(rl:Int) - 1 - (i:Int):=aq (by omega) (by omega);have hw3:wrap .i64 ((i:Int)+1)=((i+1:Nat):Int):=by rw [aq (by omega) (by omega)]; omega
  rw [hw1,hw2,hw3];refine ae (fun h5=> ?_) (fun h5=> ?_)
  ·have h5:=dT h5;have hj:((rl:Int) - 1 - (i:Int)).toNat=rl - 1 - i:=by omega
   have hl:=rX hg (by rw [hrlen]; omega) (i:=rl - 1 - i) (by rw [hrlen]; omega);have hlt:=inv.lt;have hrj:r.getD (rl - 1 - i) 0 < BB:=Num.getD_lt (by decide) inv.rl _;obtain ⟨LB,hLB⟩: ∃ x,x=ln*BB:=⟨_,rfl⟩
   have hLB':LB=1000000000*ln:=by rw [hLB,hBv,mul_comm]
   have ea:wrap .u64 ((ln:Int)*1000000000)=(LB:Int):=wU (by omega) (by omega);have eb:wrap .u64 ((LB:Int)+((r.getD (rl - 1 - i) 0:Nat):Int))=((LB+r.getD (rl - 1 - i) 0:Nat):Int):=wU (by omega) (by omega);refine ⟨_,oH (by omega) (by omega),_,by rw [hj]; exact hl,?_⟩;dsimp only;rw [ea,eb];refine ⟨_,Gt (by omega) k0,_,KD k0,_,oH (by omega) (by omega),?_⟩;have hst:=sU (g:=room g 11) hg (by rw [hrlen]; omega) (i:=rl - 1 - i) (by rw [hrlen]; omega) ((LB+r.getD (rl - 1 - i) 0) / k);have ok':=ok.room 11;have hkn:=ok'.wf _ _ (show (room g 11).get ku=_ from hg);refine ⟨_,by rw [hj]; exact hst,?_⟩;have hstep:=Num.SmallInv.step (at':=rl - 1 - i) k0 (by rw [show rl - 1 - i+1=rl - i by omega]; exact inv);rw [<-hLB] at hstep;refine iL (mz - 1) (by omega) ⟨by omega,by omega,⟨r.set (rl - 1 - i) ((LB+r.getD (rl - 1 - i) 0) / k),(LB+r.getD (rl - 1 - i) 0) % k,by rw [length_set,hrlen],rfl,by rw [show rl - (i+1)=rl - 1 - i by omega]; exact hstep,?_⟩,?_,ok'.set _ hku hkn w⟩
   ·show ((room g 11).set ku _).get ku=_;rw [Heap.get_set,if_pos rfl]
   ·show ((room g 11).set ku _).get kq=_;rw [Heap.get_set,if_neg (fun e=>hne e.symm)];exact hgq
  ·have h5:=dF h5;obtain rfl:i=rl:=by omega
   rw [sub_self] at inv;have hdone:=inv.done k0;have r1:=rm hgq hL hcapL;have r2:=rm hg hrlen.symm hcap;refine (i8 r1 (by omega)).mono ?_;rintro _ _ ⟨rfl,rfl⟩;refine ⟨_,_,_,rfl,(i8 r2 (by omega)).mono ?_⟩;rintro _ _ ⟨rfl,rfl⟩;refine ⟨_,_,_,rfl,_,_,_,_,_,_,rfl,?_,?_,ok⟩
   ·have:=qj r1 hQ;rw [hq] at this; exact this
   ·have:=qj r2 inv.rl;rw [hdone,hr] at this; exact this)
theorem Ok.but {h G G':Heap}{k:Nat}(o:Ok h G)(w:Wf h)(x:OkX G k G')(hk:h.next<=k):Ok h G':=
 ⟨x.wf,fun j B hj=>x.keep j B (fun e=>by have:=w _ _ hj; omega) (o.ext j B hj),le_trans o.nx x.nx⟩
def JW {h2:Heap}{X Y N m L k ku kv kq ec:Nat}{cu cv:List Value}(hY:0 < Y)(hm:0 < m)(hmN:m<=N)(hN:N<=5000)(hL:L=N+1 - m)(k0:0 < k)(kB:k<=BB)(hVl:(Num.toB BB (Y*k)).length=m)(hVB:Y*k<=BB ^ m)(a:Option Addr)(n c:Nat)(b:Option Addr)(d:Nat):=
 lc a n c b m d (k:Int) (some ⟨kq,0,none⟩) L L (some ⟨ku,0,none⟩) (N+1) (bj+cu.length) (some ⟨kv,0,none⟩) m ec (L:Int)
  (fun mz i G=>i<=L/\mz=L - i/\ ∃ U Ql:List Nat,DState h2 G ku kv kq cu cv U Ql N m (X*k) (Y*k) (L - i)) (wc h2 X Y) (by
  intro mz i; intros; rename_i G hi;obtain ⟨h1,h2',U,Ql,D⟩:=hi;have hYk:0 < Y*k:=mul_pos hY k0;have hw1:wrap .i64 ((L:Int) - 1)=(L:Int) - 1:=aq (by omega) (by omega);have hw3:wrap .i64 ((i:Int)+1)=((i+1:Nat):Int):=by rw [aq (by omega) (by omega)]; omega
  have hcap:aI (bj+cu.length)=cu.length:=by unfold aI; rw [if_pos (by omega)]; omega
  have hul:=D.ul;have hcl:=D.cl;have hql:=D.qlen;have ru:=rm (c:=bj+cu.length) D.gu hul.symm (by rw [hcap]; exact hcl);rw [hw1];refine ae (fun h5=> ?_) (fun h5=> ?_)
  ·have h5:=dT h5;obtain ⟨at',hat⟩: ∃ x,x=L - 1 - i:=⟨_,rfl⟩
   have hw2:wrap .i64 ((L:Int) - 1 - (i:Int))=(at':Int):=by rw [aq (by omega) (by omega)]; omega
   have hw4:wrap .i64 ((at':Int)+(m:Int))=((at'+m:Nat):Int):=by rw [aq (by omega) (by omega)]; omega
   have hw5:wrap .i64 (((at'+m:Nat):Int)+1)=((at'+m+1:Nat):Int):=by rw [aq (by omega) (by omega)]; omega
   rw [hw2,hw4,hw5,hw3];have hinv:Num.DivInv BB m (Y*k) (X*k) U Ql (at'+1):=by rw [show at'+1=L - i by omega]; exact D.inv
   obtain ⟨w1,w2,w3⟩:=hinv.window cX hVB;have hwin:=ru.window (lo:=at') (hi:=at'+m+1) (by omega) (by omega);rw [show at'+m+1 - at'=m+1 by omega,zero_add] at hwin;refine ⟨_,_,_,hwin,?_⟩;have hC:(ba cu 0 U).length=cu.length:=ti (by omega);have DI:DigIn G ku at' (bj+cu.length - at') m (ba cu 0 U) ((U.drop at').take (m+1)) (Num.toB BB (Y*k)) (some ⟨kv,0,none⟩) ec:={
    w:=D.ok.wf
    get:=by
     rw [ga (by rw [w3]; exact jj (by omega))];exact D.gu
    fit:=by rw [w3,hC]; omega
    ul:=w3
    vl:=hVl
    mp:=hm
    mle:=by omega
    ult:=fun x hx=>hinv.ul x (List.mem_of_mem_drop (mem_of_mem_take hx))
    vlt:=Num.toB_lt cX _
    v1:=by have:=Num.toB_top cX hYk; rwa [hVl] at this
    lt:=by rw [Num.bv_toB cX]; exact w2
    rd:=fun g og=> .inr ⟨kv,0,cv,ec,true,by rw [lM,hVl],og.keep _ _ (fun e=>D.uv' e.symm) D.gv,by rw [drop_zero,lM]; exact D.vrow⟩ }
   refine (yx DI).mono ?_;rintro _ g3 ⟨W',wl,wlt,wbv,rfl,wget,wok⟩;rw [Num.bv_toB cX] at wbv;have hqd:Num.bv BB ((U.drop at').take (m+1)) / Num.bv BB (Num.toB BB (Y*k))=Num.bv BB ((U.drop at').take (m+1)) / (Y*k):=by rw [Num.bv_toB cX]
   rw [hqd];have hdB:Num.bv BB ((U.drop at').take (m+1)) / (Y*k) < BB:=div_lt_of_lt_mul (by rw [mul_comm]; exact w2);have gq3:=wok.keep _ _ (fun e=>D.uq e.symm) D.gq;have gv3:=wok.keep _ _ (fun e=>D.uv' e.symm) D.gv;have ok3:=Ok.but D.ok D.w2 wok D.u2;have hzl:((List.replicate (N+1 - m) 0).map uv).length=N+1 - m:=by rw [lM,length_replicate]
   have hst:=sU gq3 (by rw [hzl]; omega) (i:=at') (by omega) (Num.bv BB ((U.drop at').take (m+1)) / (Y*k));have hkn:=ok3.wf _ _ gq3;have hid:=oH (k:=kq) (off:=0) (n:=L) (c:=L) (i:=(at':Int)) (by omega) (by omega);rw [toNat_natCast] at hid;refine ⟨_,rfl,_,hid,_,hst,?_⟩;have hsplit:Num.bv BB ((U.drop at').take (m+1))=Num.bv BB W'+Num.bv BB ((U.drop at').take (m+1)) / (Y*k)*(Y*k):=by
    have h9:=Nat.mod_add_div (Num.bv BB ((U.drop at').take (m+1))) (Y*k);rw [mul_comm (Y*k)] at h9;rw [wbv]; exact h9.symm
   have hnew:=hinv.step cX hVB wlt wl hdB hsplit (by rw [wbv]; exact mod_lt _ hYk);refine cA (mz - 1) (by omega) ⟨by omega,by omega,U.take at'++W'++U.drop (at'+(m+1)),Ql.set at' (Num.bv BB ((U.drop at').take (m+1)) / (Y*k)),{
    ok:=ok3.set _ D.q2 hkn D.w2
    w2:=D.w2
    u2:=D.u2
    q2:=D.q2
    gu:= ?_
    gv:= ?_
    gq:= ?_
    uv':=D.uv'
    uq:=D.uq
    vq:=D.vq
    ul:= ?_
    cl:=hcl
    qlen:=by rw [length_set]; exact hql
    vrow:=D.vrow
    inv:=by rw [show L - (i+1)=at' by omega]; exact hnew }⟩
   ·show (g3.set kq _).get ku=_;rw [Heap.get_set,if_neg D.uq,wget,ui (W:=(U.drop at').take (m+1)) (by omega) (by omega) (by rw [wl,w3]) (by rw [w3]),wl]
   ·show (g3.set kq _).get kv=_;rw [Heap.get_set,if_neg D.vq]; exact gv3
   ·show (g3.set kq _).get kq=_;rw [Heap.get_set,if_pos rfl]
   ·simp only [length_append,length_take,length_drop,wl]; omega
  ·have h5:=dF h5;obtain rfl:i=L:=by omega
   have hinv:=D.inv;rw [sub_self] at hinv;obtain ⟨d1,d2⟩:=hinv.done;obtain ⟨e1,e2⟩:=Num.mul_div_mul_k (X:=X) (Y:=Y) k0;rw [e1] at d1;rw [e2] at d2;have hul':=hinv.ul;obtain ⟨t1,t2⟩:=Num.trimL_take U;refine (i8 ru (by omega)).mono ?_;rintro _ _ ⟨rfl,rfl⟩;refine ⟨_,_,_,rfl,?_⟩;have hC:(ba cu 0 U).length=cu.length:=ti (by omega);have hcapL:aI (N+1 - m)=N+1 - m:=by unfold aI; rw [if_neg (by unfold bj; omega)]
   have hbvt:Num.bv BB (Num.trimL U)=X % Y*k:=by rw [Num.trimL_eq cX hul',Num.bv_toB cX,d2]
   subst hL;rename_i G';refine Jw D.w2 (X:=X) (Y:=Y) (ku:=ku) (kq:=kq) (rc:=bj+cu.length) (k:=k) (R:=X % Y*k) (C:=ba cu 0 U) (Zq:=(List.replicate (N+1 - m) 0).map uv) (Ql:=Ql) D.u2 D.q2 D.uq (by rw [hC]; omega) (by omega) hql.symm (by omega) (by rw [hcap]; omega) (by rw [hcapL]; exact le_refl _) k0 kB hinv.ql d1 (Nat.mul_div_cancel _ k0) a n c b m d _ (i:=0)
    ⟨zero_le _,rfl,⟨Num.trimL U,0,rfl,rfl,⟨fun x hx=>hul' x (by rw [<-t1] at hx; exact mem_of_mem_take hx),by omega,k0,?_⟩,?_⟩,D.gq,D.ok⟩
   ·rw [Nat.sub_zero,List.drop_length,take_length,hbvt];simp [Num.bv]
   ·rw [ga (by rw [jj (by omega),drop_zero,t1])];exact D.gu)
end Go.Proofs.YtoabjjimjldcfaaGreatDoor
end
section
set_option linter.unusedVariables false
set_option maxRecDepth 100000
namespace Go.Proofs.YtoabjjimjldcfaaGreatDoor
open Go Go.Ab
theorem wp {h:Heap}{a b:Option Addr}{n c mm d:Nat}{X Y:Nat}(ra:Rd h 103 (.slice a n c) (bl X))(rb:Rd h 103 (.slice b mm d) (bl Y))(hY:0 < Y)(hN:(Num.toB BB X).length<=5000)(hM:(Num.toB BB Y).length<=5000)(w:Wf h):
  FW SS 163 [.slice a n c,.slice b mm d] h (wc h X Y):=by
 have hBv:BB=1000000000:=rfl;have hn:n=(Num.toB BB X).length:=by have:=ra.len; rwa [lM] at this
 have hmm:mm=(Num.toB BB Y).length:=by have:=rb.len; rwa [lM] at this
 obtain ⟨f1,f2,f3,f4,f5,f6⟩:=Num.factor cX hY;rw [<-hmm] at f1 f2 f3 f4 f5 f6;generalize htop:(Num.toB BB Y).getD (mm - 1) 0=top at f2 f3 f4 f6;generalize hkd:BB / (top+1)=k at f3 f4 f6;refine wF a n c b mm d h _ ((jg ra rb (by omega) w).mono ?_);rintro _ h2 ⟨rfl,ok2⟩;refine ⟨_,rfl,ae (fun h1=> ?_) (fun h1=> ?_)⟩
 ·have h1:=Num.cmpN_neg.1 (dT h1);refine ⟨_,_,_,_,_,_,rfl,.inl ⟨rfl,?_⟩,?_,ok2⟩
  ·rw [div_eq_of_lt h1];show (Num.toB BB 0).map uv=[];rw [Num.toB_zero]; rfl
  ·rw [mod_eq_of_lt h1]; exact ra.ok ok2
 ·have hXY:Y<=X:=by
   rcases lt_or_ge X Y with h | h
   ·exact absurd (Num.cmpN_neg.2 h) (dF h1)
   ·exact h
  have hX:0 < X:=by omega
  have hmN:mm<=n:=by
   rcases lt_or_ge n mm with h | h
   ·have:=Num.toB_len_lt cX (m:=X) (n:=Y) (by omega); omega
   ·exact h
  have hw1:wrap .i64 ((mm:Int) - 1)=((mm - 1:Nat):Int):=by rw [aq (by omega) (by omega)]; omega
  have hj:((mm - 1:Nat):Int).toNat=mm - 1:=by omega
  obtain ⟨p,g2,g3⟩:=vw (rb.ok ok2) (i:=((mm - 1:Nat):Int)) (by omega) (by omega);rw [hj,htop] at g3;have et:wrap .u64 ((top:Int)+1)=((top+1:Nat):Int):=wU (by omega) (by omega);have hquo:ak SS.P .quo 103 (.int .u64 1000000000) (.int .u64 ((top+1:Nat):Int))=some (.int .u64 (k:Int)):=by
   have:=Gt (a:=BB) (b:=top+1) (by decide) (by omega);rw [hkd] at this;exact this
  rw [hw1];refine ⟨p,g2,_,g3,?_⟩;dsimp only;rw [et];refine ⟨_,hquo,?_⟩;refine (pi (ra.ok ok2) (Num.toB_lt cX X) (by omega) f3 f4 ok2.wf).mono ?_;rintro _ h8 ⟨a9,n10,c11,rfl,ou,ok8⟩;rw [Num.bv_toB cX] at ou;refine ⟨a9,n10,c11,rfl,(pi ((rb.ok ok2).ok ok8) (Num.toB_lt cX Y) (by omega) f3 f4 ok8.wf).mono ?_⟩;rintro _ h13 ⟨a14,n15,c16,rfl,ov,ok13⟩;rw [Num.bv_toB cX] at ov;refine ⟨a14,n15,c16,rfl,?_⟩;have hYk:0 < Y*k:=mul_pos hY f3;have hVl:(Num.toB BB (Y*k)).length=mm:=Num.toB_len_eq cX f6 (le_trans f5 (Nat.le_mul_of_pos_right Y f3)) f1;have hvlen:(bl (Y*k)).length=mm:=by rw [lM]; exact hVl
  rcases ov with ⟨_,e⟩ | ⟨kv,cv,e,hkv,gv,tv,lv⟩
  ·rw [e] at hvlen; simp at hvlen; omega
  injection e with e1 e2 e3
  subst e1;obtain rfl:n15=mm:=by rw [e2,hvlen]
  rw [hvlen] at tv;have hbvX:=Num.bv_lt (Num.toB_lt cX X);rw [Num.bv_toB cX,<-hn] at hbvX;have hXk:0 < X*k:=mul_pos hX f3;have L1:=lm a n c b n15 d (k:Int) (some ⟨kv,0,none⟩) n15 c16
   (fun mz r rn rc g=>rn<=n+1/\mz=n+1 - rn/\0 < rn/\ ∃ U:List Nat,U.length=rn/\OwnR h g 103 (.slice r rn rc) (U.map uv)/\Ok h g/\(∀ x∈U,x < BB)/\Num.bv BB U=X*k/\g.get kv=some (.cells cv 103 1 true)/\(∀ o n c,Value.slice r rn rc≠ .slice (some ⟨kv,o,none⟩) n c)) (wc h X Y) (by
   intro mz r rn rc; intros; rename_i g hi;obtain ⟨h1,h2',h3,U,hU,o,ok,hlt,hbv,gkv,hne⟩:=hi;refine ae (fun h5=> ?_) (fun h5=> ?_)
   ·have h5:=dT h5;refine ⟨_,_,_,kF _,?_⟩;obtain ⟨b',m',d',u,g6,g7,g8,g9,g10,g11⟩:=OwnR.snocX (P:=SS.P) (t:=136) (x:= .int .u64 0) qP xQ sg w ok o rfl (by rw [qx,lM]; omega) (by rw [lM]; omega);rw [lM,hU] at g7;subst g7;refine ⟨b',_,d',u,g6,xu (mz - 1) (by omega) ⟨by omega,by omega,by omega,U++[0],by simp [hU],?_,g9,?_,?_,g10 _ _ gkv hne,?_⟩⟩
    ·rw [map_append]; exact g8
    ·intro x hx;rcases List.mem_append.1 hx with hx | hx
     ·exact hlt x hx
     ·rw [List.mem_singleton.1 hx]; decide
    ·rw [Num.bv_snoc,hbv]; simp
    ·intro o' n' c' e;rcases g11 _ _ _ _ e with h7 | ⟨o2,n2,c2,h7⟩
     ·have:=ok.wf _ _ gkv; omega
     ·exact hne _ _ _ h7
   ·have h5:=dF h5;obtain rfl:rn=n+1:=by omega
    rcases o with ⟨_,e⟩ | ⟨ku,cu,e,hku,gu,tu,lu⟩
    ·have:=congrArg List.length e;rw [lM,hU] at this;have h9:n+1=0:=this;omega
    rw [lM,hU] at e tu lu;injection e with e1 _ e3
    subst e1;subst e3;have hwL:wrap .i64 (((n+1:Nat):Int) - (n15:Int))=((n+1 - n15:Nat):Int):=by rw [aq (by omega) (by omega)]; omega
    rw [hwL];refine ⟨_,_,_,Ky _ (by omega),?_⟩;have hkun:=ok.wf _ _ gu;have hkvn:=ok.wf _ _ gkv;have huv:ku≠kv:=fun e=>hne 0 (n+1) (bj+cu.length) (by rw [e]);have hcapz:((List.replicate (n+1 - n15) 0).map uv).length=n+1 - n15:=by rw [lM,length_replicate]
    exact JW (h2:=h) (X:=X) (Y:=Y) (N:=n) (m:=n15) (L:=n+1 - n15) (k:=k) (ku:=ku) (kv:=kv) (kq:=g.next) (ec:=c16) (cu:=cu) (cv:=cv) hY f1 hmN (by omega) rfl f3 f4 hVl (Nat.le_of_lt f6) a n c b d (n+1 - n15) (i:=0)
     ⟨zero_le _,rfl,U,List.replicate (n+1 - n15) 0,{
      ok:=ok.push _
      w2:=w
      u2:=hku
      q2:=ok.nx
      gu:=by
       rw [Heap.get_push,if_neg (by omega),ga (by rw [drop_zero,hU]; exact tu)];exact gu
      gv:=by rw [Heap.get_push,if_neg (by omega)]; exact gkv
      gq:=by
       rw [Heap.get_push,if_pos rfl,ga (by rw [drop_zero,length_replicate,take_of_length_le (by rw [hcapz]; exact le_refl _)])]
      uv':=huv
      uq:=by omega
      vq:=by omega
      ul:=hU
      cl:=lu
      qlen:=by rw [length_replicate]
      vrow:=by rw [hVl]; exact tv
      inv:=Num.DivInv.start cX hlt hU hmN hbvX f5 f1 f3 hbv }⟩)
  have hou:=OwnR.weak ok2.nx ou;have hlenu:n10=(Num.toB BB (X*k)).length:=by have:=ou.len; rwa [lM] at this
  have hkvlt:h8.next<=kv:=hkv;have hXkl:(Num.toB BB (X*k)).length<=n+1:=by
   refine Num.toB_len_le cX ?_;rw [pow_succ];exact lt_of_lt_of_le (Nat.mul_lt_mul_of_pos_right hbvX f3) (mul_le_mul_left _ f4)
  have hpos:0 < (Num.toB BB (X*k)).length:=length_pos_iff.2 fun e=>by have:=(Num.toB_eq_nil cX).1 e; omega
  refine L1 (n+1 - n10) ⟨by omega,rfl,by omega,Num.toB BB (X*k),hlenu.symm,hou.ok ok13,(ok2.trans ok8).trans ok13,Num.toB_lt cX _,Num.bv_toB cX _,gv,?_⟩;intro o n' c' e;rcases ou with ⟨e',_⟩ | ⟨ku,cu,e',hku,gu,_,_⟩
  ·rw [e'] at e; injection e with e; cases e
  ·rw [e'] at e;injection e with e _ _
   injection e with e
   injection e with e
   have:=ok8.wf _ _ gu;omega
abbrev dx:LB:=[0,1,2,2,3,3,3,3,4,4,4,4,4,4,4,4,5,5,5,5,5,5,5,5,5,5,5,5,5,5,5,5,6,6,6,6,6,6,6,6,6,6,6,6,6,6,6,6,6,6,6,6,6,6,6,6,6,6,6,6,6,6,6,6,7,7,7,7,7,7,7,7,7,7,7,7,7,7,7,7,7,7,7,7,7,7,7,7,7,7,7,7,7,7,7,7,7,7,7,7,7,7,7,7,7,7,7,7,7,7,7,7,7,7,7,7,7,7,7,7,7,7,7,7,7,7,7,7,8,8,8,8,8,8,8,8,8,8,8,8,8,8,8,8,8,8,8,8,8,8,8,8,8,8,8,8,8,8,8,8,8,8,8,8,8,8,8,8,8,8,8,8,8,8,8,8,8,8,8,8,8,8,8,8,8,8,8,8,8,8,8,8,8,8,8,8,8,8,8,8,8,8,8,8,8,8,8,8,8,8,8,8,8,8,8,8,8,8,8,8,8,8,8,8,8,8,8,8,8,8,8,8,8,8,8,8,8,8,8,8,8,8,8,8,8,8,8,8,8,8,8,8,8,8,8,8]
noncomputable def Kk:FD:=cB Tryz.f93 []
theorem Gw (u:Int)(h:Heap)(Q:VH)(hx:aB (decide ((u:Int)>=4294967296)) (xI .u64 (ak SS.P .shr 103 (.int .u64 u) (.int .u64 32)) fun n1=>aB (decide ((n1:Int)>=65536)) (xI .u64 (ak SS.P .shr 103 (.int .u64 n1) (.int .u64 16)) fun n2=>aB (decide ((n2:Int)>=256)) (xI .u64 (ak SS.P .shr 103 (.int .u64 n2) (.int .u64 8)) fun n3=>xI .u8 (be SS.P 9 (aa dx) (.int .u8 (wrap .u8 n3))) fun n4=>Q (.int .i64 (wrap .i64 (wrap .i64 (wrap .i64 (32+16)+8)+wrap .i64 n4))) h) (xI .u8 (be SS.P 9 (aa dx) (.int .u8 (wrap .u8 n2))) fun n5=>Q (.int .i64 (wrap .i64 (wrap .i64 (32+16)+wrap .i64 n5))) h)) (aB (decide ((n1:Int)>=256)) (xI .u64 (ak SS.P .shr 103 (.int .u64 n1) (.int .u64 8)) fun n6=>xI .u8 (be SS.P 9 (aa dx) (.int .u8 (wrap .u8 n6))) fun n7=>Q (.int .i64 (wrap .i64 (wrap .i64 (32+8)+wrap .i64 n7))) h) (xI .u8 (be SS.P 9 (aa dx) (.int .u8 (wrap .u8 n1))) fun n8=>Q (.int .i64 (wrap .i64 (32+wrap .i64 n8))) h))) (aB (decide ((u:Int)>=65536)) (xI .u64 (ak SS.P .shr 103 (.int .u64 u) (.int .u64 16)) fun n9=>aB (decide ((n9:Int)>=256)) (xI .u64 (ak SS.P .shr 103 (.int .u64 n9) (.int .u64 8)) fun n10=>xI .u8 (be SS.P 9 (aa dx) (.int .u8 (wrap .u8 n10))) fun n11=>Q (.int .i64 (wrap .i64 (wrap .i64 (wrap .i64 (0+16)+8)+wrap .i64 n11))) h) (xI .u8 (be SS.P 9 (aa dx) (.int .u8 (wrap .u8 n9))) fun n12=>Q (.int .i64 (wrap .i64 (wrap .i64 (0+16)+wrap .i64 n12))) h)) (aB (decide ((u:Int)>=256)) (xI .u64 (ak SS.P .shr 103 (.int .u64 u) (.int .u64 8)) fun n13=>xI .u8 (be SS.P 9 (aa dx) (.int .u8 (wrap .u8 n13))) fun n14=>Q (.int .i64 (wrap .i64 (wrap .i64 (0+8)+wrap .i64 n14))) h) (xI .u8 (be SS.P 9 (aa dx) (.int .u8 (wrap .u8 u))) fun n15=>Q (.int .i64 (wrap .i64 (0+wrap .i64 n15))) h)))):FW SS 93 [(.int .u64 u)] h Q:=cE Kk Tryz.func93 (aj hx)
noncomputable def zQ:FD:=cB Tryz.f198 []
theorem vW (n:Int)(h:Heap)(Q:VH)(hx:xI .i64 (ak SS.P .shr 3 (.int .i64 (wrap .i64 (n*78913))) (.int .u64 18)) fun n1=>Q (.int .i64 n1) h):FW SS 198 [(.int .i64 n)] h Q:=cE zQ Tryz.func198 (aj hx)
noncomputable def IZ:FD:=cB Tryz.f199 []
theorem HG (b:Bool)(h:Heap)(Q:VH)(hx:aB b (Q (.int .i64 1) h) (Q (.int .i64 0) h)):FW SS 199 [(.bool b)] h Q:=cE IZ Tryz.func199 (aj hx)
noncomputable def zo:FD:=cB Tryz.f191 []
theorem wR (u:Int)(h:Heap)(Q:VH)(hx:FW SS 93 [(.int .u64 u)] h fun v1 h2=>yI .i64 v1 fun n3=>FW SS 198 [(.int .i64 n3)] h2 fun v4 h5=>yI .i64 v4 fun n6=>xP (ag SS.P 185 (pA 1) (.int .i64 n6)) fun p7=>xI .u64 (ah SS.P 103 h5 (.pointer (some p7))) fun n8=>FW SS 199 [(.bool (decide ((u:Int)>=n8)))] h5 fun v9 h10=>yI .i64 v9 fun n11=>Q (.int .i64 (wrap .i64 (n6+n11))) h10):FW SS 191 [(.int .u64 u)] h Q:=cE zo Tryz.func191 (aj hx)
abbrev aW:LB:=[48,48,48,49,48,50,48,51,48,52,48,53,48,54,48,55,48,56,48,57,49,48,49,49,49,50,49,51,49,52,49,53,49,54,49,55,49,56,49,57,50,48,50,49,50,50,50,51,50,52,50,53,50,54,50,55,50,56,50,57,51,48,51,49,51,50,51,51,51,52,51,53,51,54,51,55,51,56,51,57,52,48,52,49,52,50,52,51,52,52,52,53,52,54,52,55,52,56,52,57,53,48,53,49,53,50,53,51,53,52,53,53,53,54,53,55,53,56,53,57,54,48,54,49,54,50,54,51,54,52,54,53,54,54,54,55,54,56,54,57,55,48,55,49,55,50,55,51,55,52,55,53,55,54,55,55,55,56,55,57,56,48,56,49,56,50,56,51,56,52,56,53,56,54,56,55,56,56,56,57,57,48,57,49,57,50,57,51,57,52,57,53,57,54,57,55,57,56,57,57]
noncomputable def Ku:FD:=cB Tryz.f190 []
theorem G7 (n:Int)(h:Heap)(Q:VH)(hx:aB (decide ((n:Int) < 10)) (xS (bh SS.P 9 (aa [48,49,50,51,52,53,54,55,56,57,97,98,99,100,101,102,103,104,105,106,107,108,109,110,111,112,113,114,115,116,117,118,119,120,121,122]) (some (.int .i64 n)) (some (.int .i64 (wrap .i64 (n+1)))) none h) fun l1=>Q (aa l1) h) (xS (bh SS.P 9 (aa aW) (some (.int .i64 (wrap .i64 (n*2)))) (some (.int .i64 (wrap .i64 (wrap .i64 (n*2)+2)))) none h) fun l2=>Q (aa l2) h)):FW SS 190 [(.int .i64 n)] h Q:=cE Ku Tryz.func190 (aj hx)
noncomputable def jP:FD:=cB Tryz.f192 [([1,0,0,0],[0,1,4])]
abbrev fN (a:OA)(n c:Nat)(i:Nat)(v:Int):LV:=[(.slice a n c),(.int .u64 v),(iA i)]
theorem Hn (a:OA)(n c:Nat)(u:Int)(h:Heap)(Q:VH)(hx:LL SS jP [1,0,0,0] (fN a n c n u) h (KK SS jP [1,0,0] [] (EE SS jP Q))):FW SS 192 [(.slice a n c),(.int .u64 u)] h Q:=cE jP Tryz.func192 (aj hx)
theorem pJ (a:OA)(n c:Nat)(u:Int)  (Inv:Nat->Nat->Int->Heap->Prop) (Q:VH) (step: ∀ (mz:Nat)(i:Nat)(v:Int)(zz:Nat->Value)(h:Heap),Inv mz i v h->aB (decide (((i:Int):Int)>=8)) (xI .u64 (ak SS.P .rem 103 (.int .u64 v) (.int .u64 100000000)) fun n1=>xI .u64 (ak SS.P .quo 103 (.int .u64 v) (.int .u64 100000000)) fun n2=>xI .u32 (ak SS.P .quo 101 (.int .u32 (wrap .u32 n1)) (.int .u32 10000)) fun n3=>xI .u32 (ak SS.P .rem 101 (.int .u32 (wrap .u32 n1)) (.int .u32 10000)) fun n4=>xI .u32 (ak SS.P .quo 101 (.int .u32 n4) (.int .u32 100)) fun n5=>xI .u32 (ak SS.P .rem 101 (.int .u32 n4) (.int .u32 100)) fun n6=>xI .u32 (ak SS.P .quo 101 (.int .u32 n3) (.int .u32 100)) fun n7=>xI .u32 (ak SS.P .rem 101 (.int .u32 n3) (.int .u32 100)) fun n8=>xI .u8 (be SS.P 9 (aa aW) (.int .u32 (wrap .u32 (wrap .u32 (n6*2)+1)))) fun n9=>xI .u8 (be SS.P 9 (aa aW) (.int .u32 (wrap .u32 (n6*2)))) fun n10=>xP (ag SS.P 157 (.slice a n c) (.int .i64 (wrap .i64 ((i:Int) - 1)))) fun p11=>xU (ai SS.P 5 (.pointer (some p11)) (.int .u8 n9) (room h 15)) (room h 15) fun u12 g13=>xP (ag SS.P 157 (.slice a n c) (.int .i64 (wrap .i64 ((i:Int) - 2)))) fun p14=>xU (ai SS.P 5 (.pointer (some p14)) (.int .u8 n10) g13) g13 fun u15 g16=>xI .u8 (be SS.P 9 (aa aW) (.int .u32 (wrap .u32 (wrap .u32 (n5*2)+1)))) fun n17=>xI .u8 (be SS.P 9 (aa aW) (.int .u32 (wrap .u32 (n5*2)))) fun n18=>xP (ag SS.P 157 (.slice a n c) (.int .i64 (wrap .i64 ((i:Int) - 3)))) fun p19=>xU (ai SS.P 5 (.pointer (some p19)) (.int .u8 n17) (room g16 15)) (room g16 15) fun u20 g21=>xP (ag SS.P 157 (.slice a n c) (.int .i64 (wrap .i64 ((i:Int) - 4)))) fun p22=>xU (ai SS.P 5 (.pointer (some p22)) (.int .u8 n18) g21) g21 fun u23 g24=>xI .u8 (be SS.P 9 (aa aW) (.int .u32 (wrap .u32 (wrap .u32 (n8*2)+1)))) fun n25=>xI .u8 (be SS.P 9 (aa aW) (.int .u32 (wrap .u32 (n8*2)))) fun n26=>xP (ag SS.P 157 (.slice a n c) (.int .i64 (wrap .i64 ((i:Int) - 5)))) fun p27=>xU (ai SS.P 5 (.pointer (some p27)) (.int .u8 n25) (room g24 15)) (room g24 15) fun u28 g29=>xP (ag SS.P 157 (.slice a n c) (.int .i64 (wrap .i64 ((i:Int) - 6)))) fun p30=>xU (ai SS.P 5 (.pointer (some p30)) (.int .u8 n26) g29) g29 fun u31 g32=>xI .u8 (be SS.P 9 (aa aW) (.int .u32 (wrap .u32 (wrap .u32 (n7*2)+1)))) fun n33=>xI .u8 (be SS.P 9 (aa aW) (.int .u32 (wrap .u32 (n7*2)))) fun n34=>xP (ag SS.P 157 (.slice a n c) (.int .i64 (wrap .i64 ((i:Int) - 7)))) fun p35=>xU (ai SS.P 5 (.pointer (some p35)) (.int .u8 n33) (room g32 15)) (room g32 15) fun u36 g37=>xP (ag SS.P 157 (.slice a n c) (.int .i64 (wrap .i64 ((i:Int) - 8)))) fun p38=>xU (ai SS.P 5 (.pointer (some p38)) (.int .u8 n34) g37) g37 fun u39 g40=>aF (sy (fN a n c) Inv) mz [(.slice a n c),(.int .u64 n2),(.int .i64 (wrap .i64 ((i:Int) - 8)))] g40) (aB (decide (((i:Int):Int)>=4)) (xI .u32 (ak SS.P .rem 101 (.int .u32 (wrap .u32 v)) (.int .u32 10000)) fun n41=>xI .u32 (ak SS.P .quo 101 (.int .u32 (wrap .u32 v)) (.int .u32 10000)) fun n42=>xI .u32 (ak SS.P .quo 101 (.int .u32 n41) (.int .u32 100)) fun n43=>xI .u32 (ak SS.P .rem 101 (.int .u32 n41) (.int .u32 100)) fun n44=>xI .u8 (be SS.P 9 (aa aW) (.int .u32 (wrap .u32 (wrap .u32 (n44*2)+1)))) fun n45=>xI .u8 (be SS.P 9 (aa aW) (.int .u32 (wrap .u32 (n44*2)))) fun n46=>xP (ag SS.P 157 (.slice a n c) (.int .i64 (wrap .i64 ((i:Int) - 1)))) fun p47=>xU (ai SS.P 5 (.pointer (some p47)) (.int .u8 n45) (room h 15)) (room h 15) fun u48 g49=>xP (ag SS.P 157 (.slice a n c) (.int .i64 (wrap .i64 ((i:Int) - 2)))) fun p50=>xU (ai SS.P 5 (.pointer (some p50)) (.int .u8 n46) g49) g49 fun u51 g52=>xI .u8 (be SS.P 9 (aa aW) (.int .u32 (wrap .u32 (wrap .u32 (n43*2)+1)))) fun n53=>xI .u8 (be SS.P 9 (aa aW) (.int .u32 (wrap .u32 (n43*2)))) fun n54=>xP (ag SS.P 157 (.slice a n c) (.int .i64 (wrap .i64 ((i:Int) - 3)))) fun p55=>xU (ai SS.P 5 (.pointer (some p55)) (.int .u8 n53) (room g52 15)) (room g52 15) fun u56 g57=>xP (ag SS.P 157 (.slice a n c) (.int .i64 (wrap .i64 ((i:Int) - 4)))) fun p58=>xU (ai SS.P 5 (.pointer (some p58)) (.int .u8 n54) g57) g57 fun u59 g60=>aB (decide ((wrap .i64 ((i:Int) - 4):Int)>=2)) (xI .u32 (ak SS.P .rem 101 (.int .u32 n42) (.int .u32 100)) fun n61=>xI .u32 (ak SS.P .quo 101 (.int .u32 n42) (.int .u32 100)) fun n62=>xI .u8 (be SS.P 9 (aa aW) (.int .u32 (wrap .u32 (wrap .u32 (n61*2)+1)))) fun n63=>xI .u8 (be SS.P 9 (aa aW) (.int .u32 (wrap .u32 (n61*2)))) fun n64=>xP (ag SS.P 157 (.slice a n c) (.int .i64 (wrap .i64 (wrap .i64 ((i:Int) - 4) - 1)))) fun p65=>xU (ai SS.P 5 (.pointer (some p65)) (.int .u8 n63) (room g60 15)) (room g60 15) fun u66 g67=>xP (ag SS.P 157 (.slice a n c) (.int .i64 (wrap .i64 (wrap .i64 ((i:Int) - 4) - 2)))) fun p68=>xU (ai SS.P 5 (.pointer (some p68)) (.int .u8 n64) g67) g67 fun u69 g70=>aB (decide ((wrap .i64 (wrap .i64 ((i:Int) - 4) - 2):Int) > 0)) (xP (ag SS.P 157 (.slice a n c) (.int .i64 0)) fun p71=>xU (ai SS.P 5 (.pointer (some p71)) (.int .u8 (wrap .u8 (wrap .u32 (48+n62)))) g70) g70 fun u72 g73=>Q (.tuple ⟨[]⟩) g73) (Q (.tuple ⟨[]⟩) g70)) (aB (decide ((wrap .i64 ((i:Int) - 4):Int) > 0)) (xP (ag SS.P 157 (.slice a n c) (.int .i64 0)) fun p74=>xU (ai SS.P 5 (.pointer (some p74)) (.int .u8 (wrap .u8 (wrap .u32 (48+n42)))) g60) g60 fun u75 g76=>Q (.tuple ⟨[]⟩) g76) (Q (.tuple ⟨[]⟩) g60))) (aB (decide (((i:Int):Int)>=2)) (xI .u32 (ak SS.P .rem 101 (.int .u32 (wrap .u32 v)) (.int .u32 100)) fun n77=>xI .u32 (ak SS.P .quo 101 (.int .u32 (wrap .u32 v)) (.int .u32 100)) fun n78=>xI .u8 (be SS.P 9 (aa aW) (.int .u32 (wrap .u32 (wrap .u32 (n77*2)+1)))) fun n79=>xI .u8 (be SS.P 9 (aa aW) (.int .u32 (wrap .u32 (n77*2)))) fun n80=>xP (ag SS.P 157 (.slice a n c) (.int .i64 (wrap .i64 ((i:Int) - 1)))) fun p81=>xU (ai SS.P 5 (.pointer (some p81)) (.int .u8 n79) (room h 15)) (room h 15) fun u82 g83=>xP (ag SS.P 157 (.slice a n c) (.int .i64 (wrap .i64 ((i:Int) - 2)))) fun p84=>xU (ai SS.P 5 (.pointer (some p84)) (.int .u8 n80) g83) g83 fun u85 g86=>aB (decide ((wrap .i64 ((i:Int) - 2):Int) > 0)) (xP (ag SS.P 157 (.slice a n c) (.int .i64 0)) fun p87=>xU (ai SS.P 5 (.pointer (some p87)) (.int .u8 (wrap .u8 (wrap .u32 (48+n78)))) g86) g86 fun u88 g89=>Q (.tuple ⟨[]⟩) g89) (Q (.tuple ⟨[]⟩) g86)) (aB (decide (((i:Int):Int) > 0)) (xP (ag SS.P 157 (.slice a n c) (.int .i64 0)) fun p90=>xU (ai SS.P 5 (.pointer (some p90)) (.int .u8 (wrap .u8 (wrap .u32 (48+wrap .u32 v)))) h) h fun u91 g92=>Q (.tuple ⟨[]⟩) g92) (Q (.tuple ⟨[]⟩) h))))) (mz:Nat) {i:Nat} {v:Int} {h:Heap} (hi:Inv mz i v h):LL SS jP [1,0,0,0] (fN a n c i v) h (KK SS jP [1,0,0] [] (EE SS jP Q)):=
 mT (fN a n c) Inv (fun mz i v zz h hi=>aj (step mz i v zz h hi)) mz hi
noncomputable def BW:FD:=cB Tryz.f180 []
theorem zc (u:Int)(h:Heap)(Q:VH)(hx:aB (((10:Int) == 10)) (aB (decide ((u:Int) < 100)) (FW SS 190 [(.int .i64 (wrap .i64 u))] h fun v1 h2=>yS v1 fun l3=>Q (aa l3) h2) (xN (aD SS.P 177) h fun B4 g5=>FW SS 191 [(.int .u64 u)] g5 fun v6 h7=>yI .i64 v6 fun n8=>xL (bh SS.P 177 (pA (h.next)) none (some (.int .i64 n8)) none h7) fun a9 n10 c11=>FW SS 192 [(.slice a9 n10 c11),(.int .u64 u)] h7 fun v12 h13=>v12=(.tuple ⟨[]⟩)/\xL (bh SS.P 177 (pA (h.next)) none (some (.int .i64 n8)) none h13) fun a14 n15 c16=>xS (Ih SS.P 157 9 (.slice a14 n15 c16) h13) fun l17=>Q (aa l17) h13)) (FW SS 193 [nA,(.int .u64 u),(.int .i64 10),(.bool false),(.bool false)] h fun v18 h19=> ∃ (a20:OA) (n21 c22:Nat),∃ l23:LB,v18=(.tuple ⟨[(.slice a20 n21 c22),(aa l23)]⟩)/\Q (aa l23) h19)):FW SS 180 [(.int .u64 u),(.int .i64 10)] h Q:=cE BW Tryz.func180 (aj hx)
noncomputable def DY:FD:=cB Tryz.f170 []
theorem By (u:Int)(h:Heap)(Q:VH)(hx:FW SS 180 [(.int .u64 u),(.int .i64 10)] h fun v1 h2=>yS v1 fun l3=>Q (aa l3) h2):FW SS 170 [(.int .u64 u),(.int .i64 10)] h Q:=cE DY Tryz.func170 (aj hx)
end Go.Proofs.YtoabjjimjldcfaaGreatDoor
end
section
set_option linter.unusedVariables false
namespace Go.Num
def wid:Nat->Nat->List UInt8
 | 0,_=>[]
 | n+1,u=>wid n (u / 10)++[dig (u % 10)]
theorem wid_len: ∀ n u,(wid n u).length=n
 | 0,_=>rfl
 | n+1,u=>by rw [wid,length_append,wid_len n]; rfl
theorem wid_cons: ∀ (n u:Nat),wid (n+1) u=dig (u / 10 ^ n % 10)::wid n u
 | 0,u=>by simp [wid]
 | n+1,u=>by
  rw [wid,wid_cons n (u / 10),wid,List.cons_append,Nat.div_div_eq_div_mul,pow_succ,mul_comm 10]
theorem wid_dec {n u:Nat}(h1:u < 10 ^ (n+1))(h2:n=0\/10 ^ n<=u):wid (n+1) u=toDec u:=by
 induction n generalizing u with
 | zero=>
  rw [toDec_lt (by simpa using h1)];simp only [wid,nil_append];rw [mod_eq_of_lt (by simpa using h1)]
 | succ n ih=>
  have h3:10 ^ (n+1)<=u:=by rcases h2 with h | h; omega; exact h
  have h4:10<=u:=by
   have:10 ^ 1<=10 ^ (n+1):=pow_le_pow_right (by omega) (by omega);omega
  rw [toDec_ge h4,wid,ih]
  ·rw [Nat.div_lt_iff_lt_mul (by omega),<-pow_succ]; exact h1
  ·right;rw [Nat.le_div_iff_mul_le (by omega),<-pow_succ]; exact h3
theorem CN {u:Nat}: ∀ {n:Nat},u < 10 ^ n->0 < n->wid n u=List.replicate (n - (toDec u).length) 48++toDec u
 | 0,_,h=>absurd h (by omega)
 | n+1,h,_=>by
  by_cases hn:n=0\/10 ^ n<=u
  ·have h1:=wid_dec h hn;have h2:=congrArg List.length h1;rw [wid_len] at h2;rw [h1,<-h2]; simp
  ·have hn1:n≠0:=fun h=>hn (.inl h);have hn2:u < 10 ^ n:=Nat.lt_of_not_le fun h=>hn (.inr h);have hl:=(toDec_len_le (n:=u) (k:=n) (by omega)).2 hn2;rw [wid_cons,CN hn2 (by omega),div_eq_of_lt hn2,show n+1 - (toDec u).length=(n - (toDec u).length)+1 by omega,List.replicate_succ]; rfl
end Go.Num
end
section
set_option linter.unusedVariables false
set_option maxRecDepth 100000
namespace Go.Proofs.YtoabjjimjldcfaaGreatDoor
open Go Go.Ab
theorem Bk {P:Program}{t:TypeId}{a:Int}(h:0<=a){s:Nat}(hs:s<=64):ak P .shr t (.int .u64 a) (.int .u64 (s:Int))=some (.int .u64 (a / 2 ^ s)):=by
 show (if 0<=(s:Int) then some (Value.int .u64 (a.fdiv (2 ^ (min (s:Int).toNat 64)))) else none)=_;rw [if_pos (by omega),toNat_natCast,min_eq_left hs,Int.fdiv_eq_ediv_of_nonneg _ (Int.le_of_lt (Int.pow_pos (by decide)))]
theorem J4 {P:Program}{t:TypeId}{a:Int}(h:0<=a){s:Nat}(hs:s<=64):ak P .shr t (.int .i64 a) (.int .u64 (s:Int))=some (.int .i64 (a / 2 ^ s)):=by
 show (if 0<=(s:Int) then some (Value.int .i64 (a.fdiv (2 ^ (min (s:Int).toNat 64)))) else none)=_;rw [if_pos (by omega),toNat_natCast,min_eq_left hs,Int.fdiv_eq_ediv_of_nonneg _ (Int.le_of_lt (Int.pow_pos (by decide)))]
def LT8:List UInt8:=[0,1,2,2,3,3,3,3,4,4,4,4,4,4,4,4,5,5,5,5,5,5,5,5,5,5,5,5,5,5,5,5,6,6,6,6,6,6,6,6,6,6,6,6,6,6,6,6,6,6,6,6,6,6,6,6,6,6,6,6,6,6,6,6,7,7,7,7,7,7,7,7,7,7,7,7,7,7,7,7,7,7,7,7,7,7,7,7,7,7,7,7,7,7,7,7,7,7,7,7,7,7,7,7,7,7,7,7,7,7,7,7,7,7,7,7,7,7,7,7,7,7,7,7,7,7,7,7,8,8,8,8,8,8,8,8,8,8,8,8,8,8,8,8,8,8,8,8,8,8,8,8,8,8,8,8,8,8,8,8,8,8,8,8,8,8,8,8,8,8,8,8,8,8,8,8,8,8,8,8,8,8,8,8,8,8,8,8,8,8,8,8,8,8,8,8,8,8,8,8,8,8,8,8,8,8,8,8,8,8,8,8,8,8,8,8,8,8,8,8,8,8,8,8,8,8,8,8,8,8,8,8,8,8,8,8,8,8,8,8,8,8,8,8,8,8,8,8,8,8,8,8,8,8,8,8]
def SM:List UInt8:=[48,48,48,49,48,50,48,51,48,52,48,53,48,54,48,55,48,56,48,57,49,48,49,49,49,50,49,51,49,52,49,53,49,54,49,55,49,56,49,57,50,48,50,49,50,50,50,51,50,52,50,53,50,54,50,55,50,56,50,57,51,48,51,49,51,50,51,51,51,52,51,53,51,54,51,55,51,56,51,57,52,48,52,49,52,50,52,51,52,52,52,53,52,54,52,55,52,56,52,57,53,48,53,49,53,50,53,51,53,52,53,53,53,54,53,55,53,56,53,57,54,48,54,49,54,50,54,51,54,52,54,53,54,54,54,55,54,56,54,57,55,48,55,49,55,50,55,51,55,52,55,53,55,54,55,55,55,56,55,57,56,48,56,49,56,50,56,51,56,52,56,53,56,54,56,55,56,56,56,57,57,48,57,49,57,50,57,51,57,52,57,53,57,54,57,55,57,56,57,57]
theorem I3:((List.range 256).all fun x=>(x == 0 && (LT8.getD x 0).toNat == 0) || (Nat.ble 1 (LT8.getD x 0).toNat && Nat.ble (LT8.getD x 0).toNat 8 && Nat.ble (2 ^ ((LT8.getD x 0).toNat - 1)) x && Nat.blt x (2 ^ (LT8.getD x 0).toNat)))=true:=by kernel_rfl
theorem Ns {x:Nat}(h:x < 256)(h0:0 < x): ∃ t,(LT8.getD x 0).toNat=t+1/\t < 8/\2 ^ t<=x/\x < 2 ^ (t+1):=by
 have h1:=all_eq_true.1 I3 x (List.mem_range.2 h);have h2:(x == 0)=false:=by simp; omega
 rw [h2] at h1;simp only [Bool.false_and,Bool.false_or,Bool.and_eq_true,Nat.ble_eq,Nat.blt_eq] at h1;obtain ⟨⟨⟨a,b⟩,c⟩,d⟩:=h1;refine ⟨(LT8.getD x 0).toNat - 1,by omega,by omega,c,?_⟩;rwa [Nat.sub_add_cancel a]
theorem rj {x:Int}(h0:0<=x)(h1:x < 256):be SS.P 9 (aa LT8) (.int .u8 (wrap .u8 x))=some (.int .u8 ((LT8.getD x.toNat 0).toNat:Nat)):=by
 rw [pR h0 h1];exact md (by kernel_rfl) LT8 .u8 h0 (by show x < ((256:Nat):Int); omega)
theorem Lw:((List.range 100).all fun x=>Nat.beq (SM.getD (2*x) 0).toNat (48+x / 10) && Nat.beq (SM.getD (2*x+1) 0).toNat (48+x % 10))=true:=by kernel_rfl
theorem Hl {x:Nat}(h:x < 100):(SM.getD (2*x) 0).toNat=48+x / 10/\(SM.getD (2*x+1) 0).toNat=48+x % 10:=by
 have h1:=all_eq_true.1 Lw x (List.mem_range.2 h);simp only [Bool.and_eq_true,Nat.beq_eq] at h1;exact h1
theorem Gy {u:Nat}(h0:0 < u)(h1:u < 4294967296)(h:Heap):FW SS 93 [.int .u64 (u:Int)] h (fun v h'=>h'=h/\ ∃ n:Nat,v = .int .i64 (n+1:Nat)/\n < 32/\2 ^ n<=u/\u < 2 ^ (n+1)):=by
 refine Gw _ h _ (ae (fun g=>absurd (dT g) (by omega)) fun _=>ae (fun g=> ?_) (fun g=> ?_))
 ·have g:=dT g;refine ⟨_,Bk (s:=16) (by omega) (by omega),ae (fun g1=> ?_) (fun g1=> ?_)⟩
  ·have g1:=dT g1;refine ⟨_,Bk (s:=8) (by omega) (by omega),_,rj (by omega) (by omega),rfl,?_⟩;obtain ⟨t,e,h2,h3,h4⟩:=Ns (x:=((u:Int) / 2 ^ 16 / 2 ^ 8).toNat) (by omega) (by omega);rw [e];refine ⟨t+24,?_,by omega,?_,?_⟩
   ·refine congrArg (Value.int .i64) ?_;simp only [wrap_i64]; omega
   ·rw [pow_add]; omega
   ·rw [show t+24+1=(t+1)+24 by omega,pow_add]; omega
  ·have g1:=dF g1;refine ⟨_,rj (by omega) (by omega),rfl,?_⟩;obtain ⟨t,e,h2,h3,h4⟩:=Ns (x:=((u:Int) / 2 ^ 16).toNat) (by omega) (by omega);rw [e];refine ⟨t+16,?_,by omega,?_,?_⟩
   ·refine congrArg (Value.int .i64) ?_;simp only [wrap_i64]; omega
   ·rw [pow_add]; omega
   ·rw [show t+16+1=(t+1)+16 by omega,pow_add]; omega
 ·have g:=dF g;refine ae (fun g1=> ?_) (fun g1=> ?_)
  ·have g1:=dT g1;refine ⟨_,Bk (s:=8) (by omega) (by omega),_,rj (by omega) (by omega),rfl,?_⟩;obtain ⟨t,e,h2,h3,h4⟩:=Ns (x:=((u:Int) / 2 ^ 8).toNat) (by omega) (by omega);rw [e];refine ⟨t+8,?_,by omega,?_,?_⟩
   ·refine congrArg (Value.int .i64) ?_;simp only [wrap_i64]; omega
   ·rw [pow_add]; omega
   ·rw [show t+8+1=(t+1)+8 by omega,pow_add]; omega
  ·have g1:=dF g1;refine ⟨_,rj (by omega) (by omega),rfl,?_⟩;obtain ⟨t,e,h2,h3,h4⟩:=Ns (x:=((u:Int)).toNat) (by omega) (by omega);rw [e];refine ⟨t,?_,by omega,by omega,by omega⟩;refine congrArg (Value.int .i64) ?_;simp only [wrap_i64]; omega
def yK:List Value:=(List.range 20).map fun i=>uv (10 ^ i)
def Tab (h:Heap):Prop:= ∃ t wr,h.get 1=some (.cells yK t 0 wr)
theorem Tab.ok {h h':Heap}(t:Tab h)(o:Ok h h'):Tab h':=let ⟨k,wr,e⟩:=t; ⟨k,wr,o.ext _ _ e⟩
theorem MG:SS.P.underlying 185=some (.array 20 103):=by kernel_rfl
theorem Li {h:Heap}(t:Tab h){i:Int}(h0:0<=i)(h1:i < 20):ag SS.P 185 (.pointer (some ⟨1,0,none⟩)) (.int .i64 i)=some (.pointer (some ⟨1,0+i.toNat*1,none⟩))/\ah SS.P 103 h (.pointer (some ⟨1,0+i.toNat*1,none⟩))=some (.int .u64 ((10 ^ i.toNat:Nat):Int)):=by
 obtain ⟨_,wr,e⟩:=t;constructor
 ·unfold ag;rw [MG]; dsimp only;rw [sL]; dsimp only;rw [if_pos ⟨h0,h1⟩,bu,zero_add]
 ·unfold ah;rw [CU]; dsimp only;rw [e]; dsimp only;rw [CP];simp only [Bool.false_eq_true,if_false];unfold yK;rw [zero_add,mul_one,List.getElem?_map,List.getElem?_range (by omega)]; rfl
theorem vU {u:Nat}(h0:100<=u)(h1:u < 1000000000){h:Heap}(t:Tab h):FW SS 191 [.int .u64 (u:Int)] h (fun v h'=>h'=h/\ ∃ n:Nat,v = .int .i64 (n+1:Nat)/\n < 9/\10 ^ n<=u/\u < 10 ^ (n+1)):=by
 refine wR _ h _ ((Gy (by omega) (by omega) h).mono ?_);rintro _ g ⟨e0,n,rfl,h2,h3,h4⟩;have t:=e0 ▸ t;refine ⟨_,rfl,vW _ _ _ ⟨_,J4 (s:=18) ?_ (by omega),_,rfl,?_⟩⟩
 ·rw [aq (by omega) (by omega)]; omega
 rw [aq (by omega) (by omega)];have h5:n < 30:=by
  rcases lt_or_ge n 30 with h | h
  ·exact h
  ·have:2 ^ 30<=2 ^ n:=pow_le_pow_right (by omega) h;omega
 have h6:6<=n:=by
  rcases lt_or_ge n 6 with h | h
  ·have:2 ^ (n+1)<=2 ^ 6:=pow_le_pow_right (by omega) h;omega
  ·exact h
 obtain ⟨g1,g2⟩:=Li t (i:=((n+1:Nat):Int)*78913 / 2 ^ 18) (by omega) (by omega);refine ⟨_,g1,_,g2,HG _ _ _ ?_⟩;have key: ∀ q:Nat,2<=q->q<=9->10 ^ (q - 1)<=u->u < 10 ^ (q+1)->((n+1:Nat):Int)*78913 / 2 ^ 18=(q:Int)->aB (decide (((u:Nat):Int)>=((10 ^ (((n+1:Nat):Int)*78913 / 2 ^ 18).toNat:Nat):Int))) (∃ n11:Int,Value.int .i64 1 = .int .i64 n11/\(g=h/\ ∃ m:Nat,Value.int .i64 (wrap .i64 (((n+1:Nat):Int)*78913 / 2 ^ 18+n11)) = .int .i64 (m+1:Nat)/\m < 9/\10 ^ m<=u/\u < 10 ^ (m+1))) (∃ n11:Int,Value.int .i64 0 = .int .i64 n11/\(g=h/\ ∃ m:Nat,Value.int .i64 (wrap .i64 (((n+1:Nat):Int)*78913 / 2 ^ 18+n11)) = .int .i64 (m+1:Nat)/\m < 9/\10 ^ m<=u/\u < 10 ^ (m+1))):=by
  intro q q1 q2 q3 q4 q5;rw [q5,toNat_natCast];refine ae (fun g5=> ?_) (fun g5=> ?_)
  ·have g5:=dT g5;refine ⟨1,rfl,e0,q,?_,?_,by omega,q4⟩
   ·rw [aq (by omega) (by omega)]; rfl
   ·rcases lt_or_ge q 9 with h | h
    ·exact h
    ·have:q=9:=by omega
     subst this;omega
  ·have g5:=dF g5;refine ⟨0,rfl,e0,q - 1,?_,by omega,q3,by rw [Nat.sub_add_cancel (by omega)]; omega⟩;rw [aq (by omega) (by omega),Nat.sub_add_cancel (by omega),Int.add_zero]
 have hn:n=6\/n=7\/n=8\/n=9\/n=10\/n=11\/n=12\/n=13\/n=14\/n=15\/n=16\/n=17\/n=18\/n=19\/n=20\/n=21\/n=22\/n=23\/n=24\/n=25\/n=26\/n=27\/n=28\/n=29:=by omega
 rcases hn with rfl | rfl | rfl | rfl | rfl | rfl | rfl | rfl | rfl | rfl | rfl | rfl | rfl | rfl | rfl | rfl | rfl | rfl | rfl | rfl | rfl | rfl | rfl | rfl
 all_goals first
  | exact key 2 (by omega) (by omega) (by omega) (by omega) (by omega)
  | exact key 3 (by omega) (by omega) (by omega) (by omega) (by omega)
  | exact key 4 (by omega) (by omega) (by omega) (by omega) (by omega)
  | exact key 5 (by omega) (by omega) (by omega) (by omega) (by omega)
  | exact key 6 (by omega) (by omega) (by omega) (by omega) (by omega)
  | exact key 7 (by omega) (by omega) (by omega) (by omega) (by omega)
  | exact key 8 (by omega) (by omega) (by omega) (by omega) (by omega)
  | exact key 9 (by omega) (by omega) (by omega) (by omega) (by omega)
theorem Gd {u:Nat}(h1:u < 100)(h:Heap):FW SS 190 [.int .i64 (u:Int)] h (fun v h'=>h'=h/\v=aa (Num.toDec u)):=by
 refine G7 _ h _ (ae (fun g=> ?_) (fun g=> ?_))
 ·have g:=dT g;rw [aq (by omega) (by omega)];refine ⟨_,jq (by kernel_rfl) _ (a:=u) (b:=u+1) rfl rfl (by omega) (by simp; omega),rfl,?_⟩;rw [Num.toDec_lt (by omega)];have:u=0\/u=1\/u=2\/u=3\/u=4\/u=5\/u=6\/u=7\/u=8\/u=9:=by omega
  rcases this with rfl | rfl | rfl | rfl | rfl | rfl | rfl | rfl | rfl | rfl <;> rfl
 ·have g:=dF g;rw [aq (n:=(u:Int)*2) (by omega) (by omega),aq (by omega) (by omega)];refine ⟨_,jq (l:=SM) (by kernel_rfl) (a:=2*u) (b:=2*u+2) (by show some _=some _; congr 1; omega) (by show some _=some _; congr 1; omega) (by omega) (by show _<=200; omega),rfl,?_⟩;have hb:=Hl h1;rw [Num.toDec_ge (by omega),Num.toDec_lt (by omega),show 2*u+2 - 2*u=2 by omega];have hl:SM.length=200:=rfl;rw [drop_eq_getElem_cons (by omega),drop_eq_getElem_cons (by omega)];have e1:SM[2*u]'(by omega)=Num.dig (u / 10):=by
   apply UInt8.toNat_inj.1;have:=hb.1;rw [gD,gE (by omega)] at this;rw [show (SM[2*u]'(by omega)).toNat=_ from this];unfold Num.dig;rw [UInt8.toNat_ofNat',mod_eq_of_lt (by omega)]
  have e2:SM[2*u+1]'(by omega)=Num.dig (u % 10):=by
   apply UInt8.toNat_inj.1;have:=hb.2;rw [gD,gE (by omega)] at this;rw [show (SM[2*u+1]'(by omega)).toNat=_ from this];unfold Num.dig;rw [UInt8.toNat_ofNat',mod_eq_of_lt (a:=48+u % 10) (b:=2 ^ 8) (by omega)]
  rw [e1,e2]; rfl
section
theorem fO {n:Int}(h1:0<=n)(h2:n < 4294967296):wrap .u32 n=n:=by
 simp only [wrap,IntKind.bits,IntKind.signed,Bool.false_and,Bool.false_eq_true,if_false]; omega
theorem tE {P:Program}{t:TypeId}{a:Int}{b:Nat}(h0:0<=a)(h1:a < 4294967296)(hb:0 < b):ak P .quo t (.int .u32 a) (.int .u32 (b:Int))=some (.int .u32 (a / (b:Int))):=by
 rw [C3 P t .u32 _ _ (by omega),Int.tdiv_eq_ediv_of_nonneg h0,fO (Int.ediv_nonneg h0 (by omega)) (Int.lt_of_le_of_lt (Int.ediv_le_self _ h0) h1)]
theorem J6 {d:Nat}(h:d < 10):sn (Num.dig d) = .int .u8 (48+(d:Int)):=by
 unfold sn Num.dig;rw [UInt8.toNat_ofNat',mod_eq_of_lt (a:=48+d) (b:=2 ^ 8) (by omega)]; rfl
structure FB (h0:Heap)(k n u j w:Nat)(h:Heap):Prop where
 blk: ∃ cs,h.get k=some (.cells cs 177 0 true)/\cs.length=24/\(cs.drop j).take (n - j)=(Num.wid (n - j) u).map sn
 hw:w=u / 10 ^ (n - j)
 lt:w < 10 ^ j
 jn:j<=n
 n24:n<=9
 ok:OkX h0 k h
section
variable {h0 h:Heap} {k n u j w:Nat}
theorem FB.room (f:FB h0 k n u j w h)(r:Nat):FB h0 k n u j w (room h r):=⟨f.blk,f.hw,f.lt,f.jn,f.n24,f.ok.room r⟩
theorem FB.step (f:FB h0 k n u (j+1) w h){c:Nat}{x i:Int}(hx:x=48+(w:Int) % 10)(hi:i=(j:Int)):
  ∃ p:Addr,ag SS.P 157 (.slice (some ⟨k,0,none⟩) n c) (.int .i64 i)=some (.pointer (some p))/\ ∃ u':Upd,ai SS.P 5 (.pointer (some p)) (.int .u8 x) h=some (undef,u')/\FB h0 k n u j (w / 10) (u'.app h):=by
 subst hx hi;obtain ⟨cs,h1,h2,h3⟩:=f.blk;have hjn:=f.jn;have hn:=f.n24;refine ⟨⟨k,0+j,none⟩,?_,.set k (.cells (cs.set j (sn (Num.dig (w % 10)))) 177 0 true),?_,?_⟩
 ·unfold ag;rw [CX]; dsimp only;rw [Nt]; dsimp only;rw [if_pos ⟨by omega,by omega⟩,mul_one,bu,toNat_natCast]
 ·rw [show (48+((w:Nat):Int) % 10)=48+((w % 10:Nat):Int) by omega,<-J6 (mod_lt _ (by omega))];show (if al SS.P 5=some 1 then (storeAt h k (0+j) [sn (Num.dig (w % 10))]).map fun u=>(undef,u) else none)=_;rw [if_pos Nt];unfold storeAt;rw [h1]; dsimp only;rw [zero_add,if_pos ⟨by simp; omega,rfl⟩];have e:cs.take j++[sn (Num.dig (w % 10))]++cs.drop (j+[sn (Num.dig (w % 10))].length)=cs.set j (sn (Num.dig (w % 10))):=by
   rw [List.set_eq_take_append_cons_drop,if_pos (by omega),append_assoc]; rfl
  rw [e]; rfl
 ·have hk:=f.ok.wf _ _ h1;have hnj:n - j=(n - (j+1))+1:=by omega
  refine ⟨⟨cs.set j (sn (Num.dig (w % 10))),?_,by rw [length_set]; exact h2,?_⟩,?_,?_,by omega,hn,f.ok.set hk _⟩
  ·show (h.set k _).get k=_;rw [Heap.get_set,if_pos rfl]
  ·rw [drop_eq_getElem_cons (by simp only [length_set]; omega),hnj,List.take_succ_cons,List.getElem_set_self,List.drop_set_of_lt (by omega),h3,Num.wid_cons,List.map_cons,<-f.hw]
  ·rw [hnj,pow_succ,<-Nat.div_div_eq_div_mul,<-f.hw]
  ·have:=f.lt;rw [pow_succ] at this;omega
theorem ME {y:Int}{x:Nat}(hy:y=(x:Int))(hx:x < 100):be SS.P 9 (aa SM) (.int .u32 (wrap .u32 (wrap .u32 (y*2)+1)))=some (.int .u8 (48+(x:Int) % 10)):=by
 rw [fO (n:=y*2) (by omega) (by omega),fO (by omega) (by omega),md (by kernel_rfl) SM .u32 (by omega) (by show _ < ((200:Nat):Int); omega),show (y*2+1).toNat=2*x+1 by omega,(Hl hx).2]; rfl
theorem Mo {y:Int}{x:Nat}(hy:y=(x:Int))(hx:x < 100):be SS.P 9 (aa SM) (.int .u32 (wrap .u32 (y*2)))=some (.int .u8 (48+(x:Int) / 10)):=by
 rw [fO (n:=y*2) (by omega) (by omega),md (by kernel_rfl) SM .u32 (by omega) (by show _ < ((200:Nat):Int); omega),show (y*2).toNat=2*x by omega,(Hl hx).1]; rfl
theorem FB.pair (f:FB h0 k n u (j+2) w h){c:Nat}{y i1 i2:Int}(hy:y=(w:Int) % 100)(h1:i1=(j:Int)+1)(h2:i2=(j:Int)):
  ∃ n9:Int,be SS.P 9 (aa SM) (.int .u32 (wrap .u32 (wrap .u32 (y*2)+1)))=some (.int .u8 n9)/\
  ∃ n10:Int,be SS.P 9 (aa SM) (.int .u32 (wrap .u32 (y*2)))=some (.int .u8 n10)/\
  ∃ p11:Addr,ag SS.P 157 (.slice (some ⟨k,0,none⟩) n c) (.int .i64 i1)=some (.pointer (some p11))/\
  ∃ u12:Upd,ai SS.P 5 (.pointer (some p11)) (.int .u8 n9) (Go.Ab.room h 15)=some (undef,u12)/\
  ∃ p13:Addr,ag SS.P 157 (.slice (some ⟨k,0,none⟩) n c) (.int .i64 i2)=some (.pointer (some p13))/\
  ∃ u14:Upd,ai SS.P 5 (.pointer (some p13)) (.int .u8 n10) (u12.app (Go.Ab.room h 15))=some (undef,u14)/\
  FB h0 k n u j (w / 100) (u14.app (u12.app (Go.Ab.room h 15))):=by
 have e:y=((w % 100:Nat):Int):=by omega
 obtain ⟨p,a1,u1,a2,f1⟩:=(f.room 15).step (j:=j+1) (c:=c) (x:=48+((w % 100:Nat):Int) % 10) (i:=i1) (by omega) (by omega);obtain ⟨q,a3,u2,a4,f2⟩:=f1.step (c:=c) (x:=48+((w % 100:Nat):Int) / 10) (i:=i2) (by omega) (by omega);refine ⟨_,ME e (by omega),_,Mo e (by omega),p,a1,u1,a2,q,a3,u2,a4,?_⟩;rw [Nat.div_div_eq_div_mul] at f2;exact f2
end
theorem Hz {h0 h:Heap}{k n c u:Nat}(f:FB h0 k n u n u h):FW SS 192 [.slice (some ⟨k,0,none⟩) n c,.int .u64 (u:Int)] h (fun v h'=>v = .tuple ⟨[]⟩/\ ∃ w,FB h0 k n u 0 w h'):=by
 have hn:=f.n24;have L:=pJ (some ⟨k,0,none⟩) n c (u:Int) (fun mz i v g=> ∃ w:Nat,v=(w:Int)/\mz=i/\FB h0 k n u i w g) (fun v h'=>v = .tuple ⟨[]⟩/\ ∃ w,FB h0 k n u 0 w h') (by
  intro mz i v; intros; rename_i g hi;obtain ⟨w,rfl,rfl,f⟩:=hi;have hjn:=f.jn;have hw:w < 1000000000:=lt_of_lt_of_le f.lt (show 10 ^ mz<=10 ^ 9 from pow_le_pow_right (by omega) (by omega));refine ae (fun g1=> ?_) (fun g1=> ?_)
  ·have g1:=dT g1;obtain ⟨j,rfl⟩: ∃ j,mz=j+8:=⟨mz - 8,by omega⟩
   refine ⟨_,cP (b:=100000000) (by omega) (by omega),_,jd (b:=100000000) (by omega) (by omega) (by omega),?_⟩;rw [fO (n:=((w:Nat):Int) % ((100000000:Nat):Int)) (by omega) (by omega)];refine ⟨_,tE (b:=10000) (by omega) (by omega) (by omega),_,cP (b:=10000) (by omega) (by omega),_,tE (b:=100) (by omega) (by omega) (by omega),_,cP (b:=100) (by omega) (by omega),_,tE (b:=100) (by omega) (by omega) (by omega),_,cP (b:=100) (by omega) (by omega),?_⟩;obtain ⟨a1,b1,a2,b2,a3,b3,a4,b4,a5,b5,a6,b6,f1⟩:=FB.pair (j:=j+6) (c:=c) (y:=((w:Nat):Int) % ((100000000:Nat):Int) % ((10000:Nat):Int) % ((100:Nat):Int)) (i1:=wrap .i64 (((j+8:Nat):Int) - 1)) (i2:=wrap .i64 (((j+8:Nat):Int) - 2)) f (by omega) (by rw [aq (by omega) (by omega)]; omega) (by rw [aq (by omega) (by omega)]; omega);refine ⟨a1,b1,a2,b2,a3,b3,a4,b4,a5,b5,a6,b6,?_⟩;obtain ⟨a1,b1,a2,b2,a3,b3,a4,b4,a5,b5,a6,b6,f2⟩:=FB.pair (j:=j+4) (c:=c) (y:=((w:Nat):Int) % ((100000000:Nat):Int) % ((10000:Nat):Int) / ((100:Nat):Int)) (i1:=wrap .i64 (((j+8:Nat):Int) - 3)) (i2:=wrap .i64 (((j+8:Nat):Int) - 4)) f1 (by omega) (by rw [aq (by omega) (by omega)]; omega) (by rw [aq (by omega) (by omega)]; omega);refine ⟨a1,b1,a2,b2,a3,b3,a4,b4,a5,b5,a6,b6,?_⟩;obtain ⟨a1,b1,a2,b2,a3,b3,a4,b4,a5,b5,a6,b6,f3⟩:=FB.pair (j:=j+2) (c:=c) (y:=((w:Nat):Int) % ((100000000:Nat):Int) / ((10000:Nat):Int) % ((100:Nat):Int)) (i1:=wrap .i64 (((j+8:Nat):Int) - 5)) (i2:=wrap .i64 (((j+8:Nat):Int) - 6)) f2 (by omega) (by rw [aq (by omega) (by omega)]; omega) (by rw [aq (by omega) (by omega)]; omega);refine ⟨a1,b1,a2,b2,a3,b3,a4,b4,a5,b5,a6,b6,?_⟩;obtain ⟨a1,b1,a2,b2,a3,b3,a4,b4,a5,b5,a6,b6,f4⟩:=FB.pair (j:=j) (c:=c) (y:=((w:Nat):Int) % ((100000000:Nat):Int) / ((10000:Nat):Int) / ((100:Nat):Int)) (i1:=wrap .i64 (((j+8:Nat):Int) - 7)) (i2:=wrap .i64 (((j+8:Nat):Int) - 8)) f3 (by omega) (by rw [aq (by omega) (by omega)]; omega) (by rw [aq (by omega) (by omega)]; omega);refine ⟨a1,b1,a2,b2,a3,b3,a4,b4,a5,b5,a6,b6,?_⟩;have e1:wrap .i64 (((j+8:Nat):Int) - 8)=(j:Int):=by rw [aq (by omega) (by omega)]; omega
   rw [e1];exact iL j (by omega) ⟨w / 100000000,by omega,rfl,by
    have:=f4;simp only [Nat.div_div_eq_div_mul] at this;exact this⟩
  ·have g1:=dF g1;have hw8:w < 100000000:=lt_of_lt_of_le f.lt (show 10 ^ mz<=10 ^ 8 from pow_le_pow_right (by omega) (by omega));rw [fO (n:=((w:Nat):Int)) (by omega) (by omega)];refine ae (fun g2=> ?_) (fun g2=> ?_)
   ·have g2:=dT g2;obtain ⟨j,rfl⟩: ∃ j,mz=j+4:=⟨mz - 4,by omega⟩
    refine ⟨_,cP (b:=10000) (by omega) (by omega),_,tE (b:=10000) (by omega) (by omega) (by omega),_,tE (b:=100) (by omega) (by omega) (by omega),_,cP (b:=100) (by omega) (by omega),?_⟩;obtain ⟨a1,b1,a2,b2,a3,b3,a4,b4,a5,b5,a6,b6,f1⟩:=FB.pair (j:=j+2) (c:=c) (y:=((w:Nat):Int) % ((10000:Nat):Int) % ((100:Nat):Int)) (i1:=wrap .i64 (((j+4:Nat):Int) - 1)) (i2:=wrap .i64 (((j+4:Nat):Int) - 2)) f (by omega) (by rw [aq (by omega) (by omega)]; omega) (by rw [aq (by omega) (by omega)]; omega);refine ⟨a1,b1,a2,b2,a3,b3,a4,b4,a5,b5,a6,b6,?_⟩;obtain ⟨a1,b1,a2,b2,a3,b3,a4,b4,a5,b5,a6,b6,f2⟩:=FB.pair (j:=j) (c:=c) (y:=((w:Nat):Int) % ((10000:Nat):Int) / ((100:Nat):Int)) (i1:=wrap .i64 (((j+4:Nat):Int) - 3)) (i2:=wrap .i64 (((j+4:Nat):Int) - 4)) f1 (by omega) (by rw [aq (by omega) (by omega)]; omega) (by rw [aq (by omega) (by omega)]; omega);refine ⟨a1,b1,a2,b2,a3,b3,a4,b4,a5,b5,a6,b6,?_⟩;have e1:wrap .i64 (((j+4:Nat):Int) - 4)=(j:Int):=by rw [aq (by omega) (by omega)]; omega
    rw [e1];have hwj:=f2.lt;refine ae (fun g3=> ?_) (fun g3=> ?_)
    ·have g3:=dT g3;obtain ⟨l,rfl⟩: ∃ l,j=l+2:=⟨j - 2,by omega⟩
     refine ⟨_,cP (b:=100) (by omega) (by omega),_,tE (b:=100) (by omega) (by omega) (by omega),?_⟩;obtain ⟨a1,b1,a2,b2,a3,b3,a4,b4,a5,b5,a6,b6,f3⟩:=FB.pair (j:=l) (c:=c) (y:=((w:Nat):Int) / ((10000:Nat):Int) % ((100:Nat):Int)) (i1:=wrap .i64 (((l+2:Nat):Int) - 1)) (i2:=wrap .i64 (((l+2:Nat):Int) - 2)) f2 (by omega) (by rw [aq (by omega) (by omega)]; omega) (by rw [aq (by omega) (by omega)]; omega);refine ⟨a1,b1,a2,b2,a3,b3,a4,b4,a5,b5,a6,b6,?_⟩;have e2:wrap .i64 (((l+2:Nat):Int) - 2)=(l:Int):=by rw [aq (by omega) (by omega)]; omega
     rw [e2];refine ae (fun g4=> ?_) (fun g4=> ?_)
     ·have g4:=dT g4;obtain rfl:l=1:=by omega
      have hwl:=f3.lt;rw [fO (n:=48+_) (by omega) (by omega),pR (n:=48+_) (by omega) (by omega)];obtain ⟨p,b1,u1,b2,f4⟩:=f3.step (c:=c) (x:=48+((w:Nat):Int) / ((10000:Nat):Int) / ((100:Nat):Int)) (i:=0) (by omega) rfl;exact ⟨p,b1,u1,b2,rfl,_,f4⟩
     ·have g4:=dF g4;obtain rfl:l=0:=by omega
      exact ⟨rfl,_,f3⟩
    ·have g3:=dF g3;refine ae (fun g4=> ?_) (fun g4=> ?_)
     ·have g4:=dT g4;obtain rfl:j=1:=by omega
      rw [fO (n:=48+_) (by omega) (by omega),pR (n:=48+_) (by omega) (by omega)];obtain ⟨p,b1,u1,b2,f4⟩:=f2.step (c:=c) (x:=48+((w:Nat):Int) / ((10000:Nat):Int)) (i:=0) (by omega) rfl;exact ⟨p,b1,u1,b2,rfl,_,f4⟩
     ·have g4:=dF g4;obtain rfl:j=0:=by omega
      exact ⟨rfl,_,f2⟩
   ·have g2:=dF g2;refine ae (fun g3=> ?_) (fun g3=> ?_)
    ·have g3:=dT g3;obtain ⟨l,rfl⟩: ∃ l,mz=l+2:=⟨mz - 2,by omega⟩
     refine ⟨_,cP (b:=100) (by omega) (by omega),_,tE (b:=100) (by omega) (by omega) (by omega),?_⟩;obtain ⟨a1,b1,a2,b2,a3,b3,a4,b4,a5,b5,a6,b6,f3⟩:=FB.pair (j:=l) (c:=c) (y:=((w:Nat):Int) % ((100:Nat):Int)) (i1:=wrap .i64 (((l+2:Nat):Int) - 1)) (i2:=wrap .i64 (((l+2:Nat):Int) - 2)) f (by omega) (by rw [aq (by omega) (by omega)]; omega) (by rw [aq (by omega) (by omega)]; omega);refine ⟨a1,b1,a2,b2,a3,b3,a4,b4,a5,b5,a6,b6,?_⟩;have e2:wrap .i64 (((l+2:Nat):Int) - 2)=(l:Int):=by rw [aq (by omega) (by omega)]; omega
     rw [e2];have hwl:=f3.lt;refine ae (fun g4=> ?_) (fun g4=> ?_)
     ·have g4:=dT g4;obtain rfl:l=1:=by omega
      rw [fO (n:=48+_) (by omega) (by omega),pR (n:=48+_) (by omega) (by omega)];obtain ⟨p,b1,u1,b2,f4⟩:=f3.step (c:=c) (x:=48+((w:Nat):Int) / ((100:Nat):Int)) (i:=0) (by omega) rfl;exact ⟨p,b1,u1,b2,rfl,_,f4⟩
     ·have g4:=dF g4;obtain rfl:l=0:=by omega
      exact ⟨rfl,_,f3⟩
    ·have g3:=dF g3;have hwl:=f.lt;refine ae (fun g4=> ?_) (fun g4=> ?_)
     ·have g4:=dT g4;obtain rfl:mz=1:=by omega
      rw [fO (n:=48+_) (by omega) (by omega),pR (n:=48+_) (by omega) (by omega)];obtain ⟨p,b1,u1,b2,f4⟩:=f.step (c:=c) (x:=48+((w:Nat):Int)) (i:=0) (by omega) rfl;exact ⟨p,b1,u1,b2,rfl,_,f4⟩
     ·have g4:=dF g4;obtain rfl:mz=0:=by omega
      exact ⟨rfl,_,f⟩)
 exact Hn _ n c _ h _ (L n ⟨u,rfl,rfl,f⟩)
end
noncomputable def HR:Blk:= .cells (List.replicate 24 (.int .u8 0)) 177 0 true
theorem MD:aD SS.P 177=some (HR,gb):=by kernel_rfl
theorem Nf:SS.P.underlying 177=some (.array 24 5):=by kernel_rfl
theorem uG {h:Heap}{k:Nat}{cs:List Value}{wr:Bool}(hk:h.get k=some (.cells cs 177 0 wr)){n:Nat}(hn:n<=24):bh SS.P 177 (.pointer (some ⟨k,0,none⟩)) none (some (.int .i64 (n:Int))) none h=some (.slice (some ⟨k,0,none⟩) n 24):=by
 unfold bh;dsimp only;rw [Nf];dsimp only [bZ];rw [Nt,hk];show (if 0<=((0:Nat):Int)/\((0:Nat):Int)<=(n:Int)/\(n:Int)<=((24:Nat):Int)/\24 < bj then some (Value.slice (some ⟨k,0+((0:Nat):Int).toNat*1,none⟩) ((n:Int) - ((0:Nat):Int)).toNat (24 - ((0:Nat):Int).toNat)) else none)=_;have hO:24 < bj:=by unfold bj; omega
 rw [if_pos ⟨by omega,by omega,by omega,hO⟩];have e2:((n:Int) - ((0:Nat):Int)).toNat=n:=by omega
 have e0:((0:Nat):Int).toNat=0:=rfl;rw [e2,e0]
theorem AA {h:Heap}{k off n c:Nat}{cs:List Value}{e sz:Nat}{wr:Bool}(hk:h.get k=some (.cells cs e sz wr)){l:List UInt8}(hl:(cs.drop off).take n=l.map sn)(hn:l.length=n):Ih SS.P 157 9 (.slice (some ⟨k,off,none⟩) n c) h=some (aa l):=by
 unfold Ih aU;dsimp only;rw [CX,show SS.P.underlying 9=some .string by kernel_rfl];dsimp only;rw [show SS.P.underlying 5=some (.int .u8) by kernel_rfl];dsimp only;rw [hk];dsimp only;rw [hl,if_pos (by rw [lM]; exact hn),lH]; rfl
theorem yP {u:Nat}(h1:u < 1000000000){h:Heap}(t:Tab h)(w:Wf h):FW SS 180 [.int .u64 (u:Int),.int .i64 10] h (fun v h'=>v=aa (Num.toDec u)/\Ok h h'):=by
 refine zc _ h _ (ae (fun _=> ?_) (fun g=>by simp at g));refine ae (fun g=> ?_) (fun g=> ?_)
 ·have g:=dT g;rw [aq (by omega) (by omega)];refine (Gd (by omega) h).mono ?_;rintro _ _ ⟨rfl,rfl⟩;exact ⟨_,rfl,rfl,Ok.refl w⟩
 ·have g:=dF g;have ok:=(Ok.refl w).push HR;refine ⟨_,MD,(vU (by omega) h1 (t.ok ok)).mono ?_⟩;rintro _ h6 ⟨e6,n,rfl,g1,g2,g3⟩;subst e6;have hk:(h.push HR).get h.next=some (.cells (List.replicate 24 (.int .u8 0)) 177 0 true):=by rw [Heap.get_push,if_pos rfl]; rfl
  refine ⟨_,rfl,_,_,_,uG hk (n:=n+1) (by omega),?_⟩;have f:FB (h.push HR) h.next (n+1) u (n+1) u (h.push HR):=⟨⟨_,hk,by simp,by simp [Num.wid]⟩,by simp,g3,le_refl _,by omega,OkX.refl ok.wf⟩
  refine (Hz f).mono ?_;rintro _ h12 ⟨rfl,x,f2⟩;obtain ⟨cs,b1,b2,b3⟩:=f2.blk;rw [drop_zero,Nat.sub_zero] at b3;refine ⟨rfl,_,_,_,uG b1 (n:=n+1) (by omega),Num.toDec u,AA b1 ?_ ?_,rfl,?_⟩
  ·rw [drop_zero,b3,Num.wid_dec g3 (.inr g2)]
  ·rw [<-Num.wid_dec g3 (.inr g2),Num.wid_len]
  ·refine ⟨f2.ok.wf,fun j B hj=>f2.ok.keep j B (fun e=>by have:=w _ _ hj; omega) (ok.ext _ _ hj),le_trans ok.nx f2.ok.nx⟩
theorem BH {u:Nat}(h1:u < 1000000000){h:Heap}(t:Tab h)(w:Wf h):FW SS 170 [.int .u64 (u:Int),.int .i64 10] h (fun v h'=>v=aa (Num.toDec u)/\Ok h h'):=by
 refine By _ h _ ((yP h1 t w).mono ?_);rintro _ h2 ⟨rfl,o⟩;exact ⟨_,rfl,rfl,o⟩
noncomputable def bCopyCheck_F:FD:=cB Tryz.f181 []
theorem un (p:Addr)(h:Heap)(Q:VH)(hx:xP (af SS.P 163 (.pointer (some p)) 0) fun p1=>xO (ah SS.P 161 h (.pointer (some p1))) fun a2=>xB (ak SS.P .eql 161 (.pointer a2) (.pointer none)) fun b3=>aB b3 (xG (bJ SS.P d9 (ev SS.gl (uN [(.pointer (some p)),undef,(.pointer (some p)),(.pointer (some p)),(.pointer (some p1)),(.pointer a2),(.bool b3),(.pointer (some p)),(.pointer (some p))] 11)) (CC (dw [1,0] bCopyCheck_F.body) 2) h) h fun v4 u5 g6=>FW SS 194 [v4] g6 fun v7 h8=>yV v7 fun v9=>xG (bJ SS.P d9 (ev SS.gl (uN [(.pointer (some p)),undef,(.pointer (some p)),(.pointer (some p)),(.pointer (some p1)),(.pointer a2),(.bool b3),(.pointer (some p)),(.pointer (some p)),v4,v9] 9)) (CC (dw [1,0] bCopyCheck_F.body) 4) h8) h8 fun v10 u11 g12=>xP (af SS.P 163 (.pointer (some p)) 0) fun p13=>xU (ai SS.P 161 (.pointer (some p13)) v10 g12) g12 fun u14 g15=>Q (.tuple ⟨[]⟩) g15) (xP (af SS.P 163 (.pointer (some p)) 0) fun p16=>xO (ah SS.P 161 h (.pointer (some p16))) fun a17=>xB (ak SS.P .neq 161 (.pointer a17) (.pointer (some p))) fun b18=>aB b18 (False) (Q (.tuple ⟨[]⟩) h))):FW SS 181 [(.pointer (some p))] h Q:=cE bCopyCheck_F Tryz.func181 (aj hx)
noncomputable def F0:FD:=cB Tryz.f171 []
theorem Fg (p:Addr)(l:LB)(h:Heap)(Q:VH)(hx:FW SS 181 [(.pointer (some p))] h fun v1 h2=>v1=(.tuple ⟨[]⟩)/\xP (af SS.P 163 (.pointer (some p)) 1) fun p3=>xL (ah SS.P 157 h2 (.pointer (some p3))) fun a4 n5 c6=>xE (aJ SS.P 157 9 (.slice a4 n5 c6) (aa l) h2) h2 fun a7 n8 c9 u10 g11=>xP (af SS.P 163 (.pointer (some p)) 1) fun p12=>xU (ai SS.P 157 (.pointer (some p12)) (.slice a7 n8 c9) g11) g11 fun u13 g14=>Q (.tuple ⟨[(.int .i64 ((l:LB).length:Int)),.nilIface]⟩) g14):FW SS 171 [(.pointer (some p)),(aa l)] h Q:=cE F0 Tryz.func171 (aj hx)
noncomputable def bString_F:FD:=cB Tryz.f173 []
theorem BF (p:Addr)(h:Heap)(Q:VH)(hx:xP (af SS.P 163 (.pointer (some p)) 1) fun p1=>xL (ah SS.P 157 (room h 12) (.pointer (some p1))) fun a2 n3 c4=>xG (bJ SS.P d9 (ev SS.gl (uN [(.pointer (some p)),undef,(aa []),(.pointer (some p)),(.pointer (some p)),(.pointer (some p1)),(.slice a2 n3 c4)] 7)) (CC (dw [1,0] bString_F.body) 4) (room h 12)) (room h 12) fun v5 u6 g7=>xP (af SS.P 163 (.pointer (some p)) 1) fun p8=>xL (ah SS.P 157 g7 (.pointer (some p8))) fun a9 n10 c11=>xG (bJ SS.P d9 (ev SS.gl [(.pointer (some p)),undef,(aa []),(.pointer (some p)),(.pointer (some p)),(.pointer (some p1)),(.slice a2 n3 c4),v5,(.pointer (some p)),(.pointer (some p)),(.pointer (some p8)),(.slice a9 n10 c11),(iA n10),undef]) (CC (dw [1,0] bString_F.body) 10) g7) g7 fun v12 u13 g14=>(ah SS.P 157 (room h 12) (.pointer (some p8))=some (.slice a9 n10 c11)/\eK 4 (.slice a9 n10 c11) (.slice a9 n10 c11)=true)/\(yu SS.P 157 (.slice a9 n10 c11) (room h 12)=some (iA n10)/\eK 4 (iA n10) (iA n10)=true)/\Q v12 g14):FW SS 173 [(.pointer (some p))] h Q:=cE bString_F Tryz.func173 (aj hx)
noncomputable def Kf:FD:=cB Tryz.f108 []
theorem HI (x y:Int)(h:Heap)(Q:VH)(hx:xI .u64 (ak SS.P .shr 103 (.int .u64 x) (.int .u64 32)) fun n1=>xI .u64 (ak SS.P .shr 103 (.int .u64 y) (.int .u64 32)) fun n2=>xI .u64 (ak SS.P .shr 103 (.int .u64 (wrap .u64 (wrap .u64 ((BitVec.ofInt (IntKind.bits .u64) x &&& BitVec.ofInt (IntKind.bits .u64) 4294967295).toNat:Int)*wrap .u64 ((BitVec.ofInt (IntKind.bits .u64) y &&& BitVec.ofInt (IntKind.bits .u64) 4294967295).toNat:Int)))) (.int .u64 32)) fun n3=>xI .u64 (ak SS.P .shr 103 (.int .u64 (wrap .u64 (wrap .u64 (n1*wrap .u64 ((BitVec.ofInt (IntKind.bits .u64) y &&& BitVec.ofInt (IntKind.bits .u64) 4294967295).toNat:Int))+n3))) (.int .u64 32)) fun n4=>xI .u64 (ak SS.P .shr 103 (.int .u64 (wrap .u64 (wrap .u64 ((BitVec.ofInt (IntKind.bits .u64) (wrap .u64 (wrap .u64 (n1*wrap .u64 ((BitVec.ofInt (IntKind.bits .u64) y &&& BitVec.ofInt (IntKind.bits .u64) 4294967295).toNat:Int))+n3)) &&& BitVec.ofInt (IntKind.bits .u64) 4294967295).toNat:Int)+wrap .u64 (wrap .u64 ((BitVec.ofInt (IntKind.bits .u64) x &&& BitVec.ofInt (IntKind.bits .u64) 4294967295).toNat:Int)*n2)))) (.int .u64 32)) fun n5=>Q (.tuple ⟨[(.int .u64 (wrap .u64 (wrap .u64 (wrap .u64 (n1*n2)+n4)+n5))),(.int .u64 (wrap .u64 (x*y)))]⟩) h):FW SS 108 [(.int .u64 x),(.int .u64 y)] h Q:=cE Kf Tryz.func108 (aj hx)
end Go.Proofs.YtoabjjimjldcfaaGreatDoor
end
section
namespace Go.Ab
open Go
def OwnF (h0 h:Heap)(e:TypeId)(v:Value)(vs:List Value):Prop:=
 (v = .slice none 0 0/\vs=[])\/ ∃ k,v = .slice (some ⟨k,0,none⟩) vs.length (bj+vs.length)/\h0.next<=k/\h.get k=some (.cells vs e 1 true)
theorem OwnF.addL {P:Program}{t e t':TypeId}{i:TypeInfo}(hU:P.underlying t=some (.slice e))(hE:dA P e=some i)(hs:i.size=1)(hT:ca P t'=true){h0 h:Heap}(w0:Wf h0)(a:Ok h0 h){v:Value}{vs:List Value}(o:OwnF h0 h e v vs){x:Value}{news:List Value}(hsrc:cz h 1 x=some (news,news.length))(hx:news.all bI=true)(hl:(vs.length+news.length)*i.bytes<=70368744177664)(hl2:vs.length+news.length<=1099511627776):
  ∃ (b:Option Addr)(n c:Nat)(u:Upd),aJ P t t' v x h=some (.slice b n c,u)/\OwnF h0 (u.app h) e (.slice b n c) (vs++news)/\Ok h0 (u.app h)/\(∀ j B,h.get j=some B->(∀ o n c,v≠ .slice (some ⟨j,o,none⟩) n c)->(u.app h).get j=some B):=by
 have oldn: ∀ j B,h.get j=some B->j < h.next:=fun j B hj=>a.wf _ _ hj;unfold aJ;rw [hU]; dsimp only;rw [hE]; dsimp only;rw [if_pos hT,hs,hsrc]; dsimp only;rw [if_pos ⟨hx,by omega⟩];rcases o with ⟨rfl,rfl⟩ | ⟨k,rfl,h2,h3⟩
 ·show ∃ b n c u,(if news.length=0 then some (Value.slice none 0 0,Upd.no) else if news.length*i.bytes<=70368744177664/\news.length<=1099511627776 then some (Value.slice (some ⟨h.next,0,none⟩) news.length (bj+news.length),Upd.push (.cells news e 1 true)) else none)=_/\_;by_cases hz:news.length=0
  ·have hn:news=[]:=List.eq_nil_of_length_eq_zero hz;subst hn;exact ⟨_,_,_,_,rfl,.inl ⟨rfl,rfl⟩,a,fun j B hj _=>hj⟩
  ·rw [if_neg hz,if_pos (by simpa using And.intro hl hl2)];refine ⟨_,_,_,_,rfl,.inr ⟨h.next,by simp,a.nx,?_⟩,a.push _,fun j B hj _=> ?_⟩
   ·show (h.push _).get h.next=_;rw [Heap.get_push,if_pos rfl]; rfl
   ·show (h.push _).get j=_;rw [Heap.get_push,if_neg (fun e=>by have:=oldn _ _ hj; omega)];exact hj
 ·dsimp only;have hkn:=a.wf _ _ h3;by_cases hz:news.length=0
  ·have hn:news=[]:=List.eq_nil_of_length_eq_zero hz;subst hn;refine ⟨_,_,_,_,rfl,.inr ⟨k,by simp,h2,by rw [List.append_nil]; exact h3⟩,a,fun j B hj _=>hj⟩
  ·rw [if_neg hz,mul_one];have hcap:aI (bj+vs.length)=vs.length:=by unfold aI; rw [if_pos (by omega)]; omega
   rw [hcap,if_neg (by omega)];unfold eZ;rw [if_pos ⟨hl,hl2⟩,h3];dsimp only;rw [mul_one,if_pos ⟨rfl,rfl,by simp⟩,if_neg (by omega),if_pos ⟨rfl,by omega⟩];refine ⟨_,_,_,_,rfl,.inr ⟨h.next,by simp,a.nx,?_⟩,?_,fun j B hj hv=> ?_⟩
   ·show ((h.del k).push _).get h.next=_;rw [Heap.get_push,if_pos (show h.next=(h.del k).next from rfl),drop_zero,take_length]
   ·refine ⟨?_,fun j C hj=> ?_,le_trans a.nx (Nat.le_succ _)⟩
    ·refine Heap.wf_push (fun j C hj=> ?_) _;rw [Heap.get_del] at hj;split at hj
     ·cases hj
     ·exact a.wf _ _ hj
    ·have h7:=a.ext _ _ hj;have h8:=a.wf _ _ h7;show ((h.del k).push _).get j=_;rw [Heap.get_push,if_neg (fun e=>by have:j=h.next:=e; omega),Heap.get_del,if_neg (fun e=>by have:=w0 _ _ hj; omega)];exact h7
   ·show ((h.del k).push _).get j=_;rw [Heap.get_push,if_neg (fun e=>by have:=oldn _ _ hj; have:j=h.next:=e; omega),Heap.get_del,if_neg (fun e=>hv 0 _ _ (by rw [e]))];exact hj
theorem rh {S:Sx}{f:FuncId}{p:mA}{args:List Value}{h h':Heap}{v:Value}{Q:VH}(hY:Nat.ble YB f=false)(hp:S.pr f=some p)(hr: ∀ cf,p cf args h=some (v,h'))(hq:Q v h'):FW S f args h Q:=by
 refine ⟨v,h',⟨1,fun n hn=> ?_⟩,hq⟩;obtain ⟨m,rfl⟩: ∃ m,n=m+1:=⟨n - 1,by omega⟩
 have hY': ¬ YB<=f:=fun h=>by rw [<-Nat.ble_eq] at h; rw [hY] at h; cases h
 unfold aT;rw [if_neg hY',hp];exact hr _
end Go.Ab
end
section
set_option linter.unusedVariables false
set_option maxRecDepth 100000
namespace Go.Proofs.YtoabjjimjldcfaaGreatDoor
open Go Go.Ab
theorem m6:SS.P.underlying 161=some (.pointer 163):=by kernel_rfl
theorem qt:SS.P.underlying 181=some .unsafePointer:=by kernel_rfl
theorem H3:al SS.P 163=some 2:=by kernel_rfl
theorem JZ {ρ:Operand->Value}{o:Oper}{x:Operand}(ho:o.op = .convert 161 181 x){h:Heap}{k:Nat}{a b:Value}{wr:Bool}(hx:ρ x = .pointer (some ⟨k,0,none⟩))(hk:h.get k=some (.cells [a,b] 163 0 wr)):bJ SS.P d9 ρ o h=some (.pointer (some ⟨k,0,none⟩),.no):=by
 obtain ⟨dst,op,ty,pos,after,guard⟩:=o;subst ho;unfold bJ;have h1:bm SS.P ρ ⟨dst,.convert 161 181 x,ty,pos,after,guard⟩=none:=by
  show dd SS.P 161 181 (ρ x)=none;rw [hx]; unfold dd; rw [m6,qt]
 have h2:aU SS.P ρ ⟨dst,.convert 161 181 x,ty,pos,after,guard⟩ h=none:=by
  unfold aU; dsimp only; rw [m6,qt,hx]
 have h3:aM SS.P ρ ⟨dst,.convert 161 181 x,ty,pos,after,guard⟩=none:=by
  unfold aM; dsimp only; rw [m6,qt,hx]
 rw [h1]; dsimp only;rw [h2]; dsimp only;rw [h3]; dsimp only;unfold cV; dsimp only;rw [m6,qt,hx];show (match h.get k with | some (.cells cs t' 0 _)=>if 163=t'/\al SS.P 163=some cs.length/\0 < cs.length then some (Value.pointer (some ⟨k,0,none⟩),Upd.no) else none | _=>none)=_;rw [hk];show (if 163=163/\al SS.P 163=some [a,b].length/\0 < [a,b].length then some (Value.pointer (some ⟨k,0,none⟩),Upd.no) else none)=_;rw [if_pos ⟨rfl,H3,by simp⟩]
theorem E9 {ρ:Operand->Value}{o:Oper}{x:Operand}(ho:o.op = .convert 181 161 x){h:Heap}{k:Nat}{a b:Value}{wr:Bool}(hx:ρ x = .pointer (some ⟨k,0,none⟩))(hk:h.get k=some (.cells [a,b] 163 0 wr)):bJ SS.P d9 ρ o h=some (.pointer (some ⟨k,0,none⟩),.no):=by
 obtain ⟨dst,op,ty,pos,after,guard⟩:=o;subst ho;unfold bJ;have h1:bm SS.P ρ ⟨dst,.convert 181 161 x,ty,pos,after,guard⟩=none:=by
  show dd SS.P 181 161 (ρ x)=none;rw [hx]; unfold dd; rw [m6,qt]
 have h2:aU SS.P ρ ⟨dst,.convert 181 161 x,ty,pos,after,guard⟩ h=none:=by
  unfold aU; dsimp only; rw [m6,qt,hx]
 have h3:aM SS.P ρ ⟨dst,.convert 181 161 x,ty,pos,after,guard⟩=none:=by
  unfold aM; dsimp only; rw [m6,qt,hx]
 rw [h1]; dsimp only;rw [h2]; dsimp only;rw [h3]; dsimp only;unfold cV; dsimp only;rw [m6,qt,hx];show (match h.get k with | some (.cells cs t' 0 _)=>if 163=t'/\al SS.P 163=some cs.length/\0 < cs.length then some (Value.pointer (some ⟨k,0,none⟩),Upd.no) else none | _=>none)=_;rw [hk];show (if 163=163/\al SS.P 163=some [a,b].length/\0 < [a,b].length then some (Value.pointer (some ⟨k,0,none⟩),Upd.no) else none)=_;rw [if_pos ⟨rfl,H3,by simp⟩]
def sN (k:Nat):Value:= .pointer (some ⟨k,0,none⟩)
theorem Lu (k:Nat):af SS.P 163 (.pointer (some ⟨k,0,none⟩)) 0=some (.pointer (some ⟨k,0,none⟩)):=by kernel_rfl
theorem JR (k:Nat):af SS.P 163 (.pointer (some ⟨k,0,none⟩)) 1=some (.pointer (some ⟨k,1,none⟩)):=by kernel_rfl
theorem Og {h:Heap}{k:Nat}{a b:Value}{wr:Bool}(hk:h.get k=some (.cells [a,b] 163 0 wr)):ah SS.P 161 h (.pointer (some ⟨k,0,none⟩))=some a:=by
 unfold ah;rw [m6]; dsimp only;rw [hk]; dsimp only;rw [show Go.Ab.isAgg SS.P 161=false by kernel_rfl]; rfl
theorem Md {h:Heap}{k:Nat}{a b:Value}{wr:Bool}(hk:h.get k=some (.cells [a,b] 163 0 wr)):ah SS.P 157 h (.pointer (some ⟨k,1,none⟩))=some b:=by
 unfold ah;rw [CX]; dsimp only;rw [hk]; dsimp only;rw [show Go.Ab.isAgg SS.P 157=false by kernel_rfl]; rfl
theorem st0 {h:Heap}{k:Nat}{a b x:Value}(hk:h.get k=some (.cells [a,b] 163 0 true))(hx:bI x=true)(hc:x.cells = #[x]):ai SS.P 161 (.pointer (some ⟨k,0,none⟩)) x h=some (undef,.set k (.cells [x,b] 163 0 true)):=by
 show (if al SS.P 161=some x.cells.size then (storeAt h k 0 x.cells.toList).map fun u=>(undef,u) else none)=_;rw [hc,show al SS.P 161=some 1 by kernel_rfl,if_pos (show some 1=some #[x].size from rfl)];unfold storeAt;rw [hk]; dsimp only;rw [if_pos ⟨by simp,by simp [hx]⟩]; rfl
theorem st1 {h:Heap}{k:Nat}{a b x:Value}(hk:h.get k=some (.cells [a,b] 163 0 true))(hx:bI x=true)(hc:x.cells = #[x]):ai SS.P 157 (.pointer (some ⟨k,1,none⟩)) x h=some (undef,.set k (.cells [a,x] 163 0 true)):=by
 show (if al SS.P 157=some x.cells.size then (storeAt h k 1 x.cells.toList).map fun u=>(undef,u) else none)=_;rw [hc,show al SS.P 157=some 1 by kernel_rfl,if_pos (show some 1=some #[x].size from rfl)];unfold storeAt;rw [hk]; dsimp only;rw [if_pos ⟨by simp,by simp [hx]⟩]; rfl
theorem wb {h:Heap}{k:Nat}{a b:Value}(hk:h.get k=some (.cells [a,b] 163 0 true))(ha:a = .pointer none\/a=sN k):
  FW SS 181 [sN k] h (fun v h'=>v = .tuple ⟨[]⟩/\h'.get k=some (.cells [sN k,b] 163 0 true)/\(∀ j,j≠k->h'.get j=h.get j)/\h'.next=h.next):=by
 refine un ⟨k,0,none⟩ h _ ⟨_,Lu k,?_⟩;rcases ha with rfl | rfl
 ·refine ⟨_,Og hk,true,by kernel_rfl,?_⟩;refine ae (fun _=> ?_) (fun g=>by cases g);refine ⟨_,_,JZ (k:=k) (x:= .tmp 8) (by kernel_rfl) (by kernel_rfl) hk,rh (p:=js) (v:=sN k) (by kernel_rfl) (by kernel_rfl) (fun _=>rfl) ⟨_,rfl,_,_,E9 (k:=k) (x:= .tmp 10) (by kernel_rfl) (by kernel_rfl) hk,_,Lu k,_,st0 hk rfl rfl,rfl,?_,?_,rfl⟩⟩
  ·show (h.set k _).get k=_;rw [Heap.get_set,if_pos rfl]; rfl
  ·intro j hj;show (h.set k _).get j=_;rw [Heap.get_set,if_neg hj]
 ·refine ⟨_,Og hk,false,by kernel_rfl,?_⟩;refine ae (fun g=>by cases g) (fun _=> ?_);have hn:ak SS.P .neq 161 (sN k) (sN k)=some (.bool false):=by
   show ((iu SS.P 161 (.pointer (some ⟨k,0,none⟩)) (.pointer (some ⟨k,0,none⟩))).map fun b=>Value.bool !b)=_;unfold iu;dsimp only;rw [m6];dsimp only;rw [if_pos ⟨rfl,by rw [H3]; rfl⟩]; rfl
  refine ⟨_,Lu k,_,Og hk,false,hn,ae (fun g=>by cases g) (fun _=>⟨rfl,hk,fun _ _=>rfl,rfl⟩)⟩
def Bd (h0 h:Heap)(k:Nat)(l:List UInt8):Prop:= ∃ a v,h.get k=some (.cells [a,v] 163 0 true)/\(a = .pointer none\/a=sN k)/\OwnF h0 h 5 v (l.map sn)/\h0.next<=k
theorem OW:dA SS.P 5=some ((SS.P.info? 5).getD default):=by kernel_rfl
theorem Of:((SS.P.info? 5).getD default).size=1:=by kernel_rfl
theorem NB:((SS.P.info? 5).getD default).bytes=1:=by kernel_rfl
theorem OS:ca SS.P 9=true:=by kernel_rfl
theorem K7 (h:Heap)(l:List UInt8):cz h 1 (aa l)=some (l.map sn,(l.map sn).length):=by
 show (if 1=1 then some (l.map (fun b=>Value.int .u8 b.toNat),l.length) else none)=_;rw [if_pos rfl,lM]; rfl
theorem CK: ∀ l:List UInt8,(l.map sn).all bI=true
 | []=>rfl
 | c::l=>by rw [List.map_cons,List.all_cons,CK l]; rfl
theorem vY {h0 h g:Heap}{e:TypeId}{v:Value}{vs:List Value}(o:OwnF h0 h e v vs)(hg: ∀ j B,h.get j=some B->(∃ cs wr,B = .cells cs e 1 wr)->g.get j=some B):OwnF h0 g e v vs:=by
 rcases o with o | ⟨k,h1,h2,h3⟩
 ·exact .inl o
 ·exact .inr ⟨k,h1,h2,hg _ _ h3 ⟨_,_,rfl⟩⟩
theorem qi {h0 h:Heap}{k:Nat}{l m:List UInt8}(w0:Wf h0)(ok:Ok h0 h)(b:Bd h0 h k l)(hl:l.length+m.length<=1000000):
  FW SS 171 [sN k,aa m] h (fun v h'=>v = .tuple ⟨[.int .i64 (m.length:Int),.nilIface]⟩/\Ok h0 h'/\Bd h0 h' k (l++m)):=by
 obtain ⟨a,v,hk,ha,o,hn⟩:=b;refine Fg ⟨k,0,none⟩ m h _ ((wb hk ha).mono ?_);rintro _ g ⟨rfl,hg,hj,hx⟩;have okg:Ok h0 g:=by
  refine ⟨fun j B h1=> ?_,fun j B h1=> ?_,by rw [hx]; exact ok.nx⟩
  ·rw [hx];by_cases e:j=k
   ·rw [e]; exact ok.wf _ _ hk
   ·rw [hj j e] at h1; exact ok.wf _ _ h1
  ·have:=w0 _ _ h1;rw [hj j (by omega)]; exact ok.ext _ _ h1
 have og:OwnF h0 g 5 v (l.map sn):=vY o fun j B h1 h2=>by
  obtain ⟨cs,wr,rfl⟩:=h2;by_cases e:j=k
  ·subst e; rw [hk] at h1; injection h1 with h1; injection h1; omega
  ·rw [hj j e]; exact h1
 have hv: ∃ a n c,v = .slice a n c:=by
  rcases og with ⟨rfl,_⟩ | ⟨_,rfl,_⟩ <;> exact ⟨_,_,_,rfl⟩
 obtain ⟨a4,n5,c6,rfl⟩:=hv;obtain ⟨b7,n8,c9,u10,e1,o2,ok2,keep⟩:=og.addL CX OW Of OS w0 okg (K7 g m) (CK m) (by rw [NB,lM,lM]; omega) (by rw [lM,lM]; omega);have hk2:(u10.app g).get k=some (.cells [sN k,.slice a4 n5 c6] 163 0 true):=keep k _ hg (by
  intro o n c e;rcases og with ⟨e2,_⟩ | ⟨k2,e2,_,e3⟩
  ·rw [e2] at e; cases e
  ·rw [e2] at e;injection e with e
   injection e with e
   injection e with e
   subst e;rw [hg] at e3; injection e3 with e3; injection e3; omega)
 refine ⟨rfl,_,JR k,_,_,_,Md hg,b7,n8,c9,u10,e1,_,JR k,_,st1 hk2 ?_ ?_,rfl,?_,?_⟩
 ·rcases o2 with ⟨e2,_⟩ | ⟨k2,e2,_,e3⟩ <;> rw [e2] <;> rfl
 ·rfl
 ·exact ok2.set _ hn (ok2.wf _ _ hk2) w0
 ·refine ⟨sN k,.slice b7 n8 c9,?_,.inr rfl,?_,hn⟩
  ·show ((u10.app g).set k _).get k=_;rw [Heap.get_set,if_pos rfl]
  ·rw [map_append];refine vY o2 fun j B h1 h2=> ?_;obtain ⟨cs,wr,rfl⟩:=h2;show ((u10.app g).set k _).get j=_;rw [Heap.get_set,if_neg]
   ·exact h1
   intro e;subst e;rw [hk2] at h1; injection h1 with h1; injection h1; omega
theorem MQ {ρ:Operand->Value}{o:Oper}{x:Operand}{ts:Array TypeId}(ho:o.op = .call ⟨.builtin .unsafeSliceData,#[x],ts⟩){h:Heap}{a:Addr}{n c:Nat}(hx:ρ x = .slice (some a) n c)(hc:0 < aI c):bJ SS.P d9 ρ o h=some (.pointer (some a),.no):=by
 obtain ⟨dst,op,ty,pos,after,guard⟩:=o;subst ho;show (match [x].map ρ with
  | [.slice none _ _]=>some (Value.pointer none,Upd.no)
  | [.slice (some a) _ c]=>if 0 < aI c then some (Value.pointer (some a),Upd.no) else none
  | _=>none)=_
 rw [List.map_cons,List.map_nil,hx];show (if 0 < aI c then some (Value.pointer (some a),Upd.no) else none)=_;rw [if_pos hc]
theorem MT:SS.P.underlying 175=some (.pointer 5):=by kernel_rfl
theorem IQ {ρ:Operand->Value}{o:Oper}{x y:Operand}{t2:TypeId}(ho:o.op = .call ⟨.builtin .unsafeString,#[x,y],#[175,t2]⟩){h:Heap}{k:Nat}{l:List UInt8}(hx:ρ x = .pointer (some ⟨k,0,none⟩))(hy:ρ y = .int .i64 (l.length:Int))(hk:h.get k=some (.cells (l.map sn) 5 1 true))(h0:l≠[])(h1:l.length < 9223372036854775807):bJ SS.P d9 ρ o h=some (aa l,.set k (.cells (l.map sn) 5 1 false)):=by
 obtain ⟨dst,op,ty,pos,after,guard⟩:=o;subst ho;show (match [x,y].map ρ,(#[175,t2]:Array TypeId)[0]? with
  | [.pointer none,.int _ 0],some _=>some (aa [],Upd.no)
  | [.pointer (some ⟨k,i,none⟩),.int _ n],some pt=>(match h.get k,SS.P.underlying pt with
   | some (.cells cs e 1 true),some (.pointer e')=>
    if e=e'/\al SS.P e=some 1/\0 < n/\n < 9223372036854775807/\((cs.drop i).take n.toNat).length=n.toNat then
     (match bytesOf ((cs.drop i).take n.toNat) with
     | some l=>some (aa l,Upd.set k (.cells cs e 1 false))
     | none=>none)
    else none
   | _,_=>none)
  | _,_=>none)=_
 rw [List.map_cons,List.map_cons,List.map_nil,hx,hy];show (match h.get k,SS.P.underlying 175 with
   | some (.cells cs e 1 true),some (.pointer e')=>
    if e=e'/\al SS.P e=some 1/\0 < (l.length:Int)/\(l.length:Int) < 9223372036854775807/\((cs.drop 0).take (l.length:Int).toNat).length=(l.length:Int).toNat then
     (match bytesOf ((cs.drop 0).take (l.length:Int).toNat) with
     | some l=>some (aa l,Upd.set k (.cells cs e 1 false))
     | none=>none)
    else none
   | _,_=>none)=_
 rw [hk,MT];have hp:=length_pos_iff.2 h0;show (if 5=5/\al SS.P 5=some 1/\0 < (l.length:Int)/\(l.length:Int) < 9223372036854775807/\(((l.map sn).drop 0).take (l.length:Int).toNat).length=(l.length:Int).toNat then
     (match bytesOf (((l.map sn).drop 0).take (l.length:Int).toNat) with
     | some l'=>some (aa l',Upd.set k (.cells (l.map sn) 5 1 false))
     | none=>none)
    else none)=_
 rw [toNat_natCast,drop_zero,take_of_length_le (by simp),if_pos ⟨rfl,Nt,by omega,by omega,by simp⟩,lH]
theorem BS {h0 h:Heap}{k:Nat}{l:List UInt8}(w0:Wf h0)(ok:Ok h0 h)(b:Bd h0 h k l)(hne:l≠[])(hl:l.length<=1000000):
  FW SS 173 [sN k] h (fun v h'=>v=aa l/\Ok h0 h'):=by
 obtain ⟨a,v,hk,ha,o,hn⟩:=b;rcases o with ⟨_,h1⟩ | ⟨k2,rfl,h2,h3⟩
 ·exact absurd (List.map_eq_nil_iff.1 h1) hne
 have hk':(room h 12).get k=_:=hk;have hp:=length_pos_iff.2 hne;have hc:aI (bj+(l.map sn).length)=l.length:=by unfold aI; rw [if_pos (by omega),lM]; omega
 rw [lM] at *;refine BF ⟨k,0,none⟩ h _ ⟨_,JR k,_,_,_,Md hk',_,_,MQ (x:= .tmp 6) (ts:= #[157]) (a:=⟨k2,0,none⟩) (n:=l.length) (c:=bj+l.length) (by kernel_rfl) (by kernel_rfl) (by rw [hc]; exact hp),_,JR k,_,_,_,Md hk',_,_,IQ (x:= .tmp 7) (y:= .tmp 12) (k:=k2) (l:=l) (t2:=3) (by kernel_rfl) (by kernel_rfl) (by kernel_rfl) h3 hne (by omega),⟨Md hk',by simp [eK]⟩,⟨rfl,by simp [eK]⟩,rfl,?_⟩;exact (ok.room 12).set _ h2 ((ok.room 12).wf _ _ h3) w0
theorem N4 (m:Nat)(h:Heap):aT SS.P SS.gl SS.pr (m+8) 172 [aa [48],.int .i64 0] h=some (aa [],h):=by kernel_rfl
theorem NZ (m:Nat)(h:Heap):aT SS.P SS.gl SS.pr (m+8) 172 [aa [48],.int .i64 1] h=some (aa [48],h):=by kernel_rfl
theorem ND (m:Nat)(h:Heap):aT SS.P SS.gl SS.pr (m+8) 172 [aa [48],.int .i64 2] h=some (aa [48,48],h):=by kernel_rfl
theorem NF (m:Nat)(h:Heap):aT SS.P SS.gl SS.pr (m+8) 172 [aa [48],.int .i64 3] h=some (aa [48,48,48],h):=by kernel_rfl
theorem NJ (m:Nat)(h:Heap):aT SS.P SS.gl SS.pr (m+8) 172 [aa [48],.int .i64 4] h=some (aa [48,48,48,48],h):=by kernel_rfl
theorem N3 (m:Nat)(h:Heap):aT SS.P SS.gl SS.pr (m+8) 172 [aa [48],.int .i64 5] h=some (aa [48,48,48,48,48],h):=by kernel_rfl
theorem N7 (m:Nat)(h:Heap):aT SS.P SS.gl SS.pr (m+8) 172 [aa [48],.int .i64 6] h=some (aa [48,48,48,48,48,48],h):=by kernel_rfl
theorem Ol (m:Nat)(h:Heap):aT SS.P SS.gl SS.pr (m+8) 172 [aa [48],.int .i64 7] h=some (aa [48,48,48,48,48,48,48],h):=by kernel_rfl
theorem Nz (m:Nat)(h:Heap):aT SS.P SS.gl SS.pr (m+8) 172 [aa [48],.int .i64 8] h=some (aa [48,48,48,48,48,48,48,48],h):=by kernel_rfl
theorem Fj {n:Nat}(hn:n<=8)(h:Heap):FW SS 172 [aa [48],.int .i64 (n:Int)] h (fun v h'=>v=aa (List.replicate n 48)/\h'=h):=by
 have key: ∀ (z:Int)(l:List UInt8),(∀ m,aT SS.P SS.gl SS.pr (m+8) 172 [aa [48],.int .i64 z] h=some (aa l,h))->FW SS 172 [aa [48],.int .i64 z] h (fun v h'=>v=aa l/\h'=h):=fun z l hr=>
  ⟨_,_,⟨8,fun N hN=>by obtain ⟨m,rfl⟩: ∃ m,N=m+8:=⟨N - 8,by omega⟩; exact hr m⟩,rfl,rfl⟩
 have:n=0\/n=1\/n=2\/n=3\/n=4\/n=5\/n=6\/n=7\/n=8:=by omega
 rcases this with rfl | rfl | rfl | rfl | rfl | rfl | rfl | rfl | rfl
 ·exact key 0 _ fun m=>N4 m h
 ·exact key 1 _ fun m=>NZ m h
 ·exact key 2 _ fun m=>ND m h
 ·exact key 3 _ fun m=>NF m h
 ·exact key 4 _ fun m=>NJ m h
 ·exact key 5 _ fun m=>N3 m h
 ·exact key 6 _ fun m=>N7 m h
 ·exact key 7 _ fun m=>Ol m h
 ·exact key 8 _ fun m=>Nz m h
noncomputable def fI:FD:=cB Tryz.f161 [([1,1,1,0,1,0,0],[0,3,10,11])]
abbrev eU (a:OA)(n c:Nat)(p:Addr)(lim:Int)(i:Nat):LV:=[(.slice a n c),(.pointer (some p)),(.int .i64 lim),(iA i)]
theorem Az (a:OA)(n c:Nat)(h:Heap)(Q:VH)(hx:aB ((((n:Int):Int) == 0)) (Q (aa [48]) h) (xN (aD SS.P 163) h fun B1 g2=>LL SS fI [1,1,1,0,1,0,0] [(.slice a n c),(pA (h.next)),(iA n),(.int .i64 0)] g2 (KK SS fI [1,1,1,0,1,0] [] (EE SS fI Q)))):FW SS 161 [(.slice a n c)] h Q:=cE fI Tryz.func161 (aj hx)
theorem nE (a:OA)(n c:Nat)(p:Addr)(lim:Int)(Inv:Nat->Nat->Heap->Prop)(Q:VH)(step: ∀ (mz:Nat) (i:Nat) (zz:Nat->Value) (h:Heap),Inv mz i h->aB (decide (((i:Int):Int) < lim)) (xP (ag SS.P 136 (.slice a n c) (.int .i64 (wrap .i64 (wrap .i64 ((n:Int) - 1) - (i:Int))))) fun p3=>xI .u64 (ah SS.P 103 h (.pointer (some p3))) fun n4=>FW SS 170 [(.int .u64 n4),(.int .i64 10)] h fun v5 h6=>yS v5 fun l7=>aB (decide (((i:Int):Int) > 0)) (FW SS 172 [(aa [48]),(.int .i64 (wrap .i64 (9 - ((l7:LB).length:Int))))] h6 fun v8 h9=>yS v8 fun l10=>FW SS 171 [(.pointer (some p)),(aa l10)] h9 fun v11 h12=> ∃ n13:Int,∃ v14:Value,v11=(.tuple ⟨[(.int .i64 n13),v14]⟩)/\FW SS 171 [(.pointer (some p)),(aa l7)] h12 fun v15 h16=> ∃ n17:Int,∃ v18:Value,v15=(.tuple ⟨[(.int .i64 n17),v18]⟩)/\aF (gM (eU a n c p lim) Inv) mz [(.slice a n c),(.pointer (some p)),(.int .i64 lim),(.int .i64 (wrap .i64 ((i:Int)+1)))] h16) (FW SS 171 [(.pointer (some p)),(aa l7)] h6 fun v19 h20=> ∃ n21:Int,∃ v22:Value,v19=(.tuple ⟨[(.int .i64 n21),v22]⟩)/\aF (gM (eU a n c p lim) Inv) mz [(.slice a n c),(.pointer (some p)),(.int .i64 lim),(.int .i64 (wrap .i64 ((i:Int)+1)))] h20)) (FW SS 173 [(.pointer (some p))] h fun v23 h24=>yS v23 fun l25=>Q (aa l25) h24))(mz:Nat){i:Nat}{h:Heap}(hi:Inv mz i h):LL SS fI [1,1,1,0,1,0,0] (eU a n c p lim i) h (KK SS fI [1,1,1,0,1,0] [] (EE SS fI Q)):=
 cQ (eU a n c p lim) Inv (fun mz i zz h hi=>aj (step mz i zz h hi)) mz hi
noncomputable def iT:FD:=cB Tryz.f143 [([1,1,1,0,0,0],[6,7])]
abbrev fh  (a:OA) (n c:Nat) (b:OA) (k d:Nat):LV:=[(.slice a n c),(.slice b k d)]
theorem D6 (l m:LB)(h:Heap)(Q:VH)(hx:FW SS 139 [(aa l)] h fun v1 h2=>yB v1 fun b3=>aB (!b3) (Q (.tuple ⟨[(aa []),(.int .i64 1)]⟩) h2) (FW SS 139 [(aa m)] h2 fun v4 h5=>yB v4 fun b6=>aB (!b6) (Q (.tuple ⟨[(aa []),(.int .i64 1)]⟩) h5) (FW SS 140 [(aa l)] h5 fun v7 h8=>yL v7 fun a9 n10 c11=>FW SS 140 [(aa m)] h8 fun v12 h13=>yL v12 fun a14 n15 c16=>LL SS iT [1,1,1,0,0,0] (fh a9 n10 c11 a14 n15 c16) h13 (KK SS iT [1,1,1,0,0] [] (EE SS iT Q))))):FW SS 143 [(aa l),(aa m)] h Q:=cE iT Tryz.func143 (aj hx)
theorem pj (l m:LB)  (Inv:Nat->OA->Nat->Nat->OA->Nat->Nat->Heap->Prop) (Q:VH) (step: ∀ (mz:Nat)(a:OA)(n c:Nat)(b:OA)(k d:Nat)(zz:Nat->Value)(h:Heap),Inv mz a n c b k d h->aB (decide (((k:Int):Int) > 0)) (FW SS 163 [(.slice a n c),(.slice b k d)] h fun v17 h18=> ∃ (a19:OA)(n20 c21:Nat),∃ (a22:OA)(n23 c24:Nat),v17=(.tuple ⟨[(.slice a19 n20 c21),(.slice a22 n23 c24)]⟩)/\aF (No fh Inv) mz [(.slice b k d),(.slice a22 n23 c24)] h18) (FW SS 161 [(.slice a n c)] h fun v25 h26=>yS v25 fun l27=>Q (.tuple ⟨[(aa l27),(.int .i64 0)]⟩) h26)) (mz:Nat) {a:OA} {n c:Nat} {b:OA} {k d:Nat} {h:Heap} (hi:Inv mz a n c b k d h):LL SS iT [1,1,1,0,0,0] (fh  a n c b k d) h (KK SS iT [1,1,1,0,0] [] (EE SS iT Q)):=
 ML fh Inv (fun mz a n c b k d zz h hi=>aj (step mz a n c b k d zz h hi)) mz hi
end Go.Proofs.YtoabjjimjldcfaaGreatDoor
end
section
set_option linter.unusedVariables false
namespace Go.Num
theorem uU {Y:Nat}(hY:0 < Y): ∀ {n b:Nat},b < 10 ^ n->toDec (Y*10 ^ n+b)=toDec Y++wid n b
 | 0,b,h=>by
  obtain rfl:b=0:=by simpa using h
  simp [wid]
 | n+1,b,h=>by
  have h1:b / 10 < 10 ^ n:=by rw [Nat.div_lt_iff_lt_mul (by omega),<-pow_succ]; exact h
  have h2:=uU hY h1;have hp:0 < 10 ^ n:=Nat.pow_pos (by omega);have h3:0 < Y*10 ^ n+b / 10:=Nat.add_pos_left (mul_pos hY hp) _;have e:Y*10 ^ (n+1)+b=10*(Y*10 ^ n+b / 10)+b % 10:=by
   rw [pow_succ,mul_add,<-mul_assoc,mul_comm (Y*10 ^ n) 10];omega
  rw [e,tA h3 (mod_lt _ (by omega)),h2,wid,append_assoc]
theorem toDec_block {Y b:Nat}(hY:0 < Y)(hb:b < 1000000000):toDec (b+1000000000*Y)=toDec Y++List.replicate (9 - (toDec b).length) 48++toDec b:=by
 have h:=uU hY (n:=9) (b:=b) hb;have e:b+1000000000*Y=Y*10 ^ 9+b:=by
  rw [add_comm,mul_comm]
 rw [e,h,CN (n:=9) hb (by omega),append_assoc]
theorem toDec_len_9 {b:Nat}(hb:b < 1000000000):(toDec b).length<=9:=(toDec_len_le (by omega)).2 hb
end Go.Num
end
section
set_option linter.unusedVariables false
set_option maxRecDepth 100000
namespace Go.Proofs.YtoabjjimjldcfaaGreatDoor
open Go Go.Ab
noncomputable def MK:Blk:= .cells [.pointer none,.slice none 0 0] 163 0 true
theorem Nk:aD SS.P 163=some (MK,gb):=by kernel_rfl
theorem M8 {h0 h g:Heap}{k:Nat}{l:List UInt8}(b:Bd h0 h k l)(o:Ok h g):Bd h0 g k l:=by
 obtain ⟨a,v,h1,h2,h3,h4⟩:=b;exact ⟨a,v,o.ext _ _ h1,h2,vY h3 fun j B hj _=>o.ext _ _ hj,h4⟩
theorem nl {h:Heap}{a:Option Addr}{n c X:Nat}(ra:Rd h 103 (.slice a n c) (bl X))(hlen:(Num.toB BB X).length<=10000)(t:Tab h)(w:Wf h):
  FW SS 161 [.slice a n c] h (fun v h'=>v=aa (Num.toDec X)/\Ok h h'):=by
 have hn:n=(Num.toB BB X).length:=by have:=ra.len; rwa [lM] at this
 refine Az a n c h _ (ae (fun g=> ?_) (fun g=> ?_))
 ·have g:(n:Int)=0:=by simpa using g
  have h0:(Num.toB BB X).length=0:=by omega
  have:X=0:=by have:=(Num.toB_eq_nil cX).1 (List.eq_nil_of_length_eq_zero h0); omega
  subst this;refine ⟨?_,Ok.refl w⟩;rw [Num.toDec_lt (by omega)]; rfl
 ·have g: ¬ (n:Int)=0:=by simpa using g
  have hX:0 < X:=by
   rcases eq_zero_or_pos X with h | h
   ·subst h; rw [(Num.toB_eq_nil cX).2 rfl] at hn; simp at hn; omega
   ·exact h
  have htop:=Num.toB_top cX hX;have hlt:=Num.toB_lt cX X;have hbv:=Num.bv_toB cX X;have ra:Rd h 103 (.slice a n c) ((Num.toB BB X).map uv):=ra;generalize hx:Num.toB BB X=x at *;have L:=nE a n c ⟨h.next,0,none⟩ (n:Int) (fun mz i g=>i<=n/\mz=n - i/\Ok h g/\ ∃ l,Bd h g h.next l/\l.length<=9*i/\(i=0->l=[])/\(0 < i->0 < Num.bv BB (x.drop (n - i))/\l=Num.toDec (Num.bv BB (x.drop (n - i))))) (fun v h'=>v=aa (Num.toDec X)/\Ok h h') (by
   intro mz i; intros; rename_i g hi;obtain ⟨h1,rfl,ok,l,bd,hll,hz,hp⟩:=hi;refine ae (fun h2=> ?_) (fun h2=> ?_)
   ·have h2:=dT h2;have e1:wrap .i64 (wrap .i64 ((n:Int) - 1) - (i:Int))=((n - 1 - i:Nat):Int):=by
     rw [aq (n:=(n:Int) - 1) (by omega) (by omega),aq (by omega) (by omega)]; omega
    obtain ⟨p,e2,e3⟩:=vw (ra.ok ok) (i:=((n - 1 - i:Nat):Int)) (by omega) (by rw [<-hn]; omega);rw [e1];rw [toNat_natCast] at e3;have hb:x.getD (n - 1 - i) 0 < BB:=Num.getD_lt (by decide) hlt _;have hstep:Num.bv BB (x.drop (n - 1 - i))=x.getD (n - 1 - i) 0+BB*Num.bv BB (x.drop (n - i)):=by
     rw [Num.bv_drop,show n - 1 - i+1=n - i by omega]
    have e5:wrap .i64 ((i:Int)+1)=((i+1:Nat):Int):=by rw [aq (by omega) (by omega)]; omega
    rw [e5];have htop':i=0->0 < x.getD (n - 1 - i) 0:=fun e=>by subst e; rw [hn]; exact htop
    generalize x.getD (n - 1 - i) 0=b at *;have hb':b < 1000000000:=hb;have hb9:=Num.toDec_len_9 hb';refine ⟨p,e2,_,e3,(BH hb' (t.ok ok) ok.wf).mono ?_⟩;rintro _ h5 ⟨rfl,ok5⟩;have bd5:=M8 bd ok5;have ok5:=ok.trans ok5;refine ⟨_,rfl,ae (fun h6=> ?_) (fun h6=> ?_)⟩
    ·have h6:=dT h6;obtain ⟨p1,p2⟩:=hp (by omega);have e4:wrap .i64 (9 - ((Num.toDec b).length:Int))=((9 - (Num.toDec b).length:Nat):Int):=by rw [aq (by omega) (by omega)]; omega
     rw [e4];have hpos:=Num.toDec_len_pos b;refine (Fj (by omega) h5).mono ?_;rintro _ h8 ⟨rfl,rfl⟩;refine ⟨_,rfl,(qi w ok5 bd5 (by rw [length_replicate]; omega)).mono ?_⟩;rintro _ h11 ⟨rfl,ok11,bd11⟩;refine ⟨_,_,rfl,(qi w ok11 bd11 (by rw [length_append,length_replicate]; omega)).mono ?_⟩;rintro _ h15 ⟨rfl,ok15,bd15⟩;refine ⟨_,_,rfl,cA (n - (i+1)) (by omega) ⟨by omega,rfl,ok15,_,bd15,?_,fun h=>by omega,fun _=> ?_⟩⟩
     ·rw [length_append,length_append,length_replicate]; omega
     ·rw [show n - (i+1)=n - 1 - i by omega,hstep];refine ⟨Nat.add_pos_right _ (mul_pos (by decide) p1),?_⟩;have:=Num.toDec_block p1 hb';rw [p2];exact this.symm
    ·have h6:=dF h6;obtain rfl:i=0:=by omega
     obtain rfl:=hz rfl;refine (qi w ok5 bd5 (by rw [List.length_nil]; omega)).mono ?_;rintro _ h15 ⟨rfl,ok15,bd15⟩;refine ⟨_,_,rfl,cA (n - 1) (by omega) ⟨by omega,rfl,ok15,_,bd15,?_,fun h=>by omega,fun _=> ?_⟩⟩
     ·rw [nil_append]; omega
     ·have hb0:Num.bv BB (x.drop n)=0:=by rw [drop_of_length_le (by omega)]; rfl
      rw [show n - 1 - 0=n - 1 by omega,show n - 0=n by omega,hb0,mul_zero,add_zero] at hstep;rw [zero_add,hstep,nil_append];refine ⟨?_,rfl⟩;exact htop' rfl
   ·have h2:=dF h2;obtain rfl:i=n:=by omega
    obtain ⟨p1,p2⟩:=hp (by omega);rw [sub_self,drop_zero,hbv] at p2;subst p2;refine (BS w ok bd (Num.toDec_ne X) (by omega)).mono ?_;rintro _ h15 ⟨rfl,ok15⟩;exact ⟨_,rfl,rfl,ok15⟩)
  have ok1:=(Ok.refl w).push MK;refine ⟨_,Nk,L n (i:=0) ⟨by omega,rfl,ok1,[],⟨_,_,?_,.inl rfl,.inl ⟨rfl,rfl⟩,le_refl _⟩,by simp,fun _=>rfl,fun h=>by omega⟩⟩;rw [Heap.get_push,if_pos rfl]; rfl
theorem Lz {k m:Nat}(h:k<=9*m):10 ^ k<=BB ^ m:=by
 show 10 ^ k<=(10 ^ 9) ^ m;rw [<-Nat.pow_mul];exact pow_le_pow_right (by decide) h
theorem jc {X:Nat}(h:X < 10 ^ 1000):(Num.toB BB X).length<=112:=by
 refine Num.toB_len_le cX (lt_of_lt_of_le h (Lz (k:=1000) (m:=112) (by decide)))
def wa (h:Heap)(X Y:Nat)(mz:Nat)(a:Option Addr)(n c:Nat)(b:Option Addr)(k d:Nat)(g:Heap):Prop:= ∃ p:Nat,Rd g 103 (.slice a n c) (bl p)/\Rd g 103 (.slice b k d) (bl mz)/\(Num.toB BB p).length<=112/\(Num.toB BB mz).length<=112/\Nat.gcd p mz=Nat.gcd X Y/\Ok h g
theorem G9 {h g:Heap}{X Y mz:Nat}{a:Option Addr}{n c:Nat}{b:Option Addr}{k d:Nat}(t:Tab h)(hi:wa h X Y mz a n c b k d g){K:Nat->Option Addr->Nat->Nat->Option Addr->Nat->Nat->Heap->Prop}{Q:VH}
  (hK: ∀ (a1:Option Addr)(n1 c1:Nat)(a2:Option Addr)(n2 c2 m2:Nat)(g:Heap),m2 < mz->wa h X Y m2 b k d a2 n2 c2 g->K m2 a1 n1 c1 a2 n2 c2 g):
  (0 < k->FW SS 163 [.slice a n c,.slice b k d] g (fun v h'=> ∃ (a1:Option Addr)(n1 c1:Nat)(a2:Option Addr)(n2 c2 m2:Nat),v = .tuple ⟨[.slice a1 n1 c1,.slice a2 n2 c2]⟩/\K m2 a1 n1 c1 a2 n2 c2 h'))/\
  (k=0->FW SS 161 [.slice a n c] g (fun v h'=>v=aa (Num.toDec (Nat.gcd X Y))/\Ok h h')):=by
 obtain ⟨p,rp,rq,lp,lq,hg,ok⟩:=hi;have hk:k=(Num.toB BB mz).length:=by have:=rq.len; rwa [lM] at this
 constructor
 ·intro h2;have hq0:0 < mz:=by
   rcases eq_zero_or_pos mz with e | e
   ·subst e; rw [(Num.toB_eq_nil cX).2 rfl] at hk; simp at hk; omega
   ·exact e
  refine (wp rp rq hq0 (le_trans lp (by omega)) (le_trans lq (by omega)) ok.wf).mono ?_;rintro _ h3 ⟨a1,n1,c1,a2,n2,c2,rfl,r1,r2,ok3⟩;refine ⟨a1,n1,c1,a2,n2,c2,p % mz,rfl,hK a1 n1 c1 a2 n2 c2 (p % mz) h3 (mod_lt _ hq0) ⟨mz,rq.ok ok3,r2,lq,?_,?_,ok.trans ok3⟩⟩
  ·exact le_trans (Nat.le_of_not_lt fun h=>by have h1:=Num.toB_len_lt cX h; have h2:=mod_lt p hq0; exact absurd h1 (Nat.not_lt.2 (Nat.le_of_lt h2))) lq
  ·rw [<-hg,Nat.gcd_comm mz,<-Nat.gcd_rec,Nat.gcd_comm]
 ·intro h2;have hq0:mz=0:=(Num.toB_eq_nil cX).1 (List.eq_nil_of_length_eq_zero (by rw [<-hk,h2]));subst hq0;rw [Nat.gcd_zero_right] at hg;subst hg;refine (nl rp (le_trans lp (by omega)) (t.ok ok) ok.wf).mono ?_;rintro _ h4 ⟨rfl,ok4⟩;exact ⟨rfl,ok.trans ok4⟩
theorem D8 (a b:List UInt8){h:Heap}(t:Tab h)(w:Wf h):FW SS 143 [aa a,aa b] h (fun v h'=>v=Bz a b/\Ok h h'):=by
 refine D6 a b h _ ((bT a h).mono ?_);rintro _ g0 ⟨rfl,e0⟩;obtain rfl:h=g0:=e0.symm;refine ⟨_,rfl,ae (fun g=> ?_) (fun g=> ?_)⟩
 ·have g:Num.valid a=false:=by simpa using g
  refine ⟨?_,Ok.refl w⟩;unfold Bz; rw [if_neg (fun e=>by rw [e.1] at g; cases g)]; rfl
 have g:Num.valid a=true:=by simpa using g
 refine (bT b h).mono ?_;rintro _ g0 ⟨rfl,e0⟩;obtain rfl:h=g0:=e0.symm;refine ⟨_,rfl,ae (fun g2=> ?_) (fun g2=> ?_)⟩
 ·have g2:Num.valid b=false:=by simpa using g2
  refine ⟨?_,Ok.refl w⟩;unfold Bz; rw [if_neg (fun e=>by rw [e.2] at g2; cases g2)]; rfl
 have g2:Num.valid b=true:=by simpa using g2
 obtain ⟨X,ea,hX,eX⟩:=Num.valid_ex g;obtain ⟨Y,eb,hY,eY⟩:=Num.valid_ex g2;have da:=(Num.valid_iff.1 g)
 have db:=(Num.valid_iff.1 g2)
 have lX:=jc hX;have lY:=jc hY;clear hX hY;refine (jQ a da.1.2.1 (le_trans da.2 (by omega)) h w).mono ?_;rintro _ h1 ⟨a1,n1,c1,rfl,o1,ok1⟩;refine ⟨_,_,_,rfl,(jQ b db.1.2.1 (le_trans db.2 (by omega)) h1 ok1.wf).mono ?_⟩;rintro _ h2 ⟨a2,n2,c2,rfl,o2,ok2⟩;refine ⟨_,_,_,rfl,?_⟩;have hS:Bz a b=uY (Num.toDec (Nat.gcd X Y)) 0:=by unfold Bz; rw [if_pos ⟨g,g2⟩,eX,eY]
 rw [hS];rw [eX] at o1;rw [eY] at o2;refine pj a b (wa h X Y) (fun v h'=>v=uY (Num.toDec (Nat.gcd X Y)) 0/\Ok h h') (fun mz a n c b k d=> ?_) Y ⟨X,o1.rd.ok ok2,o2.rd,lX,lY,rfl,ok1.trans ok2⟩;intros; rename_i g hi;have S:=G9 t hi (K:=fun m2 a1 n1 c1 a2 n2 c2 g=>m2 < mz/\wa h X Y m2 b k d a2 n2 c2 g) (fun a1 n1 c1 a2 n2 c2 m2 g h1 h2=>⟨h1,h2⟩) (Q:=fun _ _=>True);refine ae (fun h2=> ?_) (fun h2=> ?_)
 ·have h2:=dT h2;refine (S.1 (by omega)).mono ?_;rintro _ h3 ⟨a1,n1,c1,a2,n2,c2,m2,rfl,i1,i2⟩;exact ⟨_,_,_,_,_,_,rfl,Nd m2 i1 i2⟩
 ·have h2:=dF h2;refine (S.2 (by omega)).mono ?_;rintro _ h4 ⟨rfl,ok4⟩;exact ⟨_,rfl,rfl,ok4⟩
noncomputable def JY:FD:=cB Tryz.f168 []
theorem In (x y z:Int)(h:Heap)(Q:VH)(hx:xI .u64 (ak SS.P .rem 103 (.int .u64 (wrap .u64 (wrap .u64 (x+y)+z))) (.int .u64 1000000000)) fun n1=>xI .u64 (ak SS.P .quo 103 (.int .u64 (wrap .u64 (wrap .u64 (x+y)+z))) (.int .u64 1000000000)) fun n2=>Q (.tuple ⟨[(.int .u64 n1),(.int .u64 n2)]⟩) h):FW SS 168 [(.int .u64 x),(.int .u64 y),(.int .u64 z)] h Q:=cE JY Tryz.func168 (aj hx)
noncomputable def GK:FD:=cB Tryz.f174 []
theorem En (x y z:Int)(h:Heap)(Q:VH)(hx:xI .u64 (ak SS.P .rem 103 (.int .u64 (wrap .u64 (wrap .u64 (wrap .u64 (x+1000000000) - y) - z))) (.int .u64 1000000000)) fun n1=>xI .u64 (ak SS.P .quo 103 (.int .u64 (wrap .u64 (wrap .u64 (wrap .u64 (x+1000000000) - y) - z))) (.int .u64 1000000000)) fun n2=>Q (.tuple ⟨[(.int .u64 n1),(.int .u64 (wrap .u64 (1 - n2)))]⟩) h):FW SS 174 [(.int .u64 x),(.int .u64 y),(.int .u64 z)] h Q:=cE GK Tryz.func174 (aj hx)
noncomputable def fa:FD:=cB Tryz.f167 [([1,1,1,0,1,0,0],[0,1,2,7,8,18,19])]
abbrev cd (a:OA)(n c:Nat)(b:OA)(m d:Nat)(lim:Int)(i:Nat)(cy:Int)(r:OA)(rn rc:Nat):LV:=[(.slice a n c),(.slice b m d),(.func (.func 168) ⟨[]⟩ ⟨[]⟩),(.slice r rn rc),(.int .u64 cy),(.int .i64 lim),(iA i)]
theorem zj (a:OA)(n c:Nat)(b:OA)(m d:Nat)(h:Heap)(Q:VH)(hx:xI .i64 (jl true [(iA n),(iA m)]) fun n1=>LL SS fa [1,1,1,0,1,0,0] (cd a n c b m d (wrap .i64 (n1+1)) 0 0 none 0 0) h (KK SS fa [1,1,1,0,1,0] [] (EE SS fa Q))):FW SS 167 [(.slice a n c),(.slice b m d),(.func (.func 168) ⟨[]⟩ ⟨[]⟩)] h Q:=cE fa Tryz.func167 (aj hx)
theorem mw (a:OA)(n c:Nat)(b:OA)(m d:Nat)(lim:Int)(Inv:Nat->Nat->Int->OA->Nat->Nat->Heap->Prop)(Q:VH)(step: ∀ (mz:Nat) (i:Nat) (cy:Int) (r:OA) (rn rc:Nat) (zz:Nat->Value) (h:Heap),Inv mz i cy r rn rc h->aB (decide (((i:Int):Int) < lim)) (aB (decide (((i:Int):Int) < (n:Int))) (xP (ag SS.P 136 (.slice a n c) (iA i)) fun p2=>xI .u64 (ah SS.P 103 h (.pointer (some p2))) fun n3=>aB (decide (((i:Int):Int) < (m:Int))) (xP (ag SS.P 136 (.slice b m d) (iA i)) fun p4=>xI .u64 (ah SS.P 103 h (.pointer (some p4))) fun n5=>FW SS 168 [(.int .u64 n3),(.int .u64 n5),(.int .u64 cy)] h fun v6 h7=> ∃ n8:Int,∃ n9:Int,v6=(.tuple ⟨[(.int .u64 n8),(.int .u64 n9)]⟩)/\xR (an SS.P 136 1 [(0,(.int .u64 n8))]) h7 fun B10 n11 c12 g13=>xE (aJ SS.P 136 136 (.slice r rn rc) (sA (h7.next) n11 c12) g13) g13 fun a14 n15 c16 u17 g18=>aF (Ci (cd a n c b m d lim) Inv) mz [(.slice a n c),(.slice b m d),(.func (.func 168) ⟨[]⟩ ⟨[]⟩),(.slice a14 n15 c16),(.int .u64 n9),(.int .i64 lim),(.int .i64 (wrap .i64 ((i:Int)+1)))] g18) (FW SS 168 [(.int .u64 n3),(.int .u64 0),(.int .u64 cy)] h fun v19 h20=> ∃ n21:Int,∃ n22:Int,v19=(.tuple ⟨[(.int .u64 n21),(.int .u64 n22)]⟩)/\xR (an SS.P 136 1 [(0,(.int .u64 n21))]) h20 fun B23 n24 c25 g26=>xE (aJ SS.P 136 136 (.slice r rn rc) (sA (h20.next) n24 c25) g26) g26 fun a27 n28 c29 u30 g31=>aF (Ci (cd a n c b m d lim) Inv) mz [(.slice a n c),(.slice b m d),(.func (.func 168) ⟨[]⟩ ⟨[]⟩),(.slice a27 n28 c29),(.int .u64 n22),(.int .i64 lim),(.int .i64 (wrap .i64 ((i:Int)+1)))] g31)) (aB (decide (((i:Int):Int) < (m:Int))) (xP (ag SS.P 136 (.slice b m d) (iA i)) fun p32=>xI .u64 (ah SS.P 103 h (.pointer (some p32))) fun n33=>FW SS 168 [(.int .u64 0),(.int .u64 n33),(.int .u64 cy)] h fun v34 h35=> ∃ n36:Int,∃ n37:Int,v34=(.tuple ⟨[(.int .u64 n36),(.int .u64 n37)]⟩)/\xR (an SS.P 136 1 [(0,(.int .u64 n36))]) h35 fun B38 n39 c40 g41=>xE (aJ SS.P 136 136 (.slice r rn rc) (sA (h35.next) n39 c40) g41) g41 fun a42 n43 c44 u45 g46=>aF (Ci (cd a n c b m d lim) Inv) mz [(.slice a n c),(.slice b m d),(.func (.func 168) ⟨[]⟩ ⟨[]⟩),(.slice a42 n43 c44),(.int .u64 n37),(.int .i64 lim),(.int .i64 (wrap .i64 ((i:Int)+1)))] g46) (FW SS 168 [(.int .u64 0),(.int .u64 0),(.int .u64 cy)] h fun v47 h48=> ∃ n49:Int,∃ n50:Int,v47=(.tuple ⟨[(.int .u64 n49),(.int .u64 n50)]⟩)/\xR (an SS.P 136 1 [(0,(.int .u64 n49))]) h48 fun B51 n52 c53 g54=>xE (aJ SS.P 136 136 (.slice r rn rc) (sA (h48.next) n52 c53) g54) g54 fun a55 n56 c57 u58 g59=>aF (Ci (cd a n c b m d lim) Inv) mz [(.slice a n c),(.slice b m d),(.func (.func 168) ⟨[]⟩ ⟨[]⟩),(.slice a55 n56 c57),(.int .u64 n50),(.int .i64 lim),(.int .i64 (wrap .i64 ((i:Int)+1)))] g59))) (FW SS 142 [(.slice r rn rc)] h fun v60 h61=>yL v60 fun a62 n63 c64=>Q (.slice a62 n63 c64) h61))(mz:Nat){i:Nat}{cy:Int}{r:OA}{rn rc:Nat}{h:Heap}(hi:Inv mz i cy r rn rc h):LL SS fa [1,1,1,0,1,0,0] (cd a n c b m d lim i cy r rn rc) h (KK SS fa [1,1,1,0,1,0] [] (EE SS fa Q)):=
 FU (cd a n c b m d lim) Inv (fun mz i cy r rn rc zz h hi=>aj (step mz i cy r rn rc zz h hi)) mz hi
noncomputable def dX:FD:=cB Tryz.f167 [([1,1,1,0,1,0,0],[0,1,2,7,8,18,19])]
abbrev bN (a:OA)(n c:Nat)(b:OA)(m d:Nat)(lim:Int)(i:Nat)(cy:Int)(r:OA)(rn rc:Nat):LV:=[(.slice a n c),(.slice b m d),(.func (.func 174) ⟨[]⟩ ⟨[]⟩),(.slice r rn rc),(.int .u64 cy),(.int .i64 lim),(iA i)]
theorem wC (a:OA)(n c:Nat)(b:OA)(m d:Nat)(h:Heap)(Q:VH)(hx:xI .i64 (jl true [(iA n),(iA m)]) fun n1=>LL SS dX [1,1,1,0,1,0,0] (bN a n c b m d (wrap .i64 (n1+1)) 0 0 none 0 0) h (KK SS dX [1,1,1,0,1,0] [] (EE SS dX Q))):FW SS 167 [(.slice a n c),(.slice b m d),(.func (.func 174) ⟨[]⟩ ⟨[]⟩)] h Q:=cE dX Tryz.func167 (aj hx)
theorem lN (a:OA)(n c:Nat)(b:OA)(m d:Nat)(lim:Int)(Inv:Nat->Nat->Int->OA->Nat->Nat->Heap->Prop)(Q:VH)(step: ∀ (mz:Nat) (i:Nat) (cy:Int) (r:OA) (rn rc:Nat) (zz:Nat->Value) (h:Heap),Inv mz i cy r rn rc h->aB (decide (((i:Int):Int) < lim)) (aB (decide (((i:Int):Int) < (n:Int))) (xP (ag SS.P 136 (.slice a n c) (iA i)) fun p2=>xI .u64 (ah SS.P 103 h (.pointer (some p2))) fun n3=>aB (decide (((i:Int):Int) < (m:Int))) (xP (ag SS.P 136 (.slice b m d) (iA i)) fun p4=>xI .u64 (ah SS.P 103 h (.pointer (some p4))) fun n5=>FW SS 174 [(.int .u64 n3),(.int .u64 n5),(.int .u64 cy)] h fun v6 h7=> ∃ n8:Int,∃ n9:Int,v6=(.tuple ⟨[(.int .u64 n8),(.int .u64 n9)]⟩)/\xR (an SS.P 136 1 [(0,(.int .u64 n8))]) h7 fun B10 n11 c12 g13=>xE (aJ SS.P 136 136 (.slice r rn rc) (sA (h7.next) n11 c12) g13) g13 fun a14 n15 c16 u17 g18=>aF (Ci (bN a n c b m d lim) Inv) mz [(.slice a n c),(.slice b m d),(.func (.func 174) ⟨[]⟩ ⟨[]⟩),(.slice a14 n15 c16),(.int .u64 n9),(.int .i64 lim),(.int .i64 (wrap .i64 ((i:Int)+1)))] g18) (FW SS 174 [(.int .u64 n3),(.int .u64 0),(.int .u64 cy)] h fun v19 h20=> ∃ n21:Int,∃ n22:Int,v19=(.tuple ⟨[(.int .u64 n21),(.int .u64 n22)]⟩)/\xR (an SS.P 136 1 [(0,(.int .u64 n21))]) h20 fun B23 n24 c25 g26=>xE (aJ SS.P 136 136 (.slice r rn rc) (sA (h20.next) n24 c25) g26) g26 fun a27 n28 c29 u30 g31=>aF (Ci (bN a n c b m d lim) Inv) mz [(.slice a n c),(.slice b m d),(.func (.func 174) ⟨[]⟩ ⟨[]⟩),(.slice a27 n28 c29),(.int .u64 n22),(.int .i64 lim),(.int .i64 (wrap .i64 ((i:Int)+1)))] g31)) (aB (decide (((i:Int):Int) < (m:Int))) (xP (ag SS.P 136 (.slice b m d) (iA i)) fun p32=>xI .u64 (ah SS.P 103 h (.pointer (some p32))) fun n33=>FW SS 174 [(.int .u64 0),(.int .u64 n33),(.int .u64 cy)] h fun v34 h35=> ∃ n36:Int,∃ n37:Int,v34=(.tuple ⟨[(.int .u64 n36),(.int .u64 n37)]⟩)/\xR (an SS.P 136 1 [(0,(.int .u64 n36))]) h35 fun B38 n39 c40 g41=>xE (aJ SS.P 136 136 (.slice r rn rc) (sA (h35.next) n39 c40) g41) g41 fun a42 n43 c44 u45 g46=>aF (Ci (bN a n c b m d lim) Inv) mz [(.slice a n c),(.slice b m d),(.func (.func 174) ⟨[]⟩ ⟨[]⟩),(.slice a42 n43 c44),(.int .u64 n37),(.int .i64 lim),(.int .i64 (wrap .i64 ((i:Int)+1)))] g46) (FW SS 174 [(.int .u64 0),(.int .u64 0),(.int .u64 cy)] h fun v47 h48=> ∃ n49:Int,∃ n50:Int,v47=(.tuple ⟨[(.int .u64 n49),(.int .u64 n50)]⟩)/\xR (an SS.P 136 1 [(0,(.int .u64 n49))]) h48 fun B51 n52 c53 g54=>xE (aJ SS.P 136 136 (.slice r rn rc) (sA (h48.next) n52 c53) g54) g54 fun a55 n56 c57 u58 g59=>aF (Ci (bN a n c b m d lim) Inv) mz [(.slice a n c),(.slice b m d),(.func (.func 174) ⟨[]⟩ ⟨[]⟩),(.slice a55 n56 c57),(.int .u64 n50),(.int .i64 lim),(.int .i64 (wrap .i64 ((i:Int)+1)))] g59))) (FW SS 142 [(.slice r rn rc)] h fun v60 h61=>yL v60 fun a62 n63 c64=>Q (.slice a62 n63 c64) h61))(mz:Nat){i:Nat}{cy:Int}{r:OA}{rn rc:Nat}{h:Heap}(hi:Inv mz i cy r rn rc h):LL SS dX [1,1,1,0,1,0,0] (bN a n c b m d lim i cy r rn rc) h (KK SS dX [1,1,1,0,1,0] [] (EE SS dX Q)):=
 FU (bN a n c b m d lim) Inv (fun mz i cy r rn rc zz h hi=>aj (step mz i cy r rn rc zz h hi)) mz hi
noncomputable def EF:FD:=cB Tryz.f159 []
theorem A1 (a:OA)(n c:Nat)(b:OA)(m d:Nat)(h:Heap)(Q:VH)(hx:FW SS 167 [(.slice a n c),(.slice b m d),(.func (.func 168) ⟨[]⟩ ⟨[]⟩)] h fun v1 h2=>yL v1 fun a3 n4 c5=>Q (.slice a3 n4 c5) h2):FW SS 159 [(.slice a n c),(.slice b m d)] h Q:=cE EF Tryz.func159 (aj hx)
noncomputable def Ay:FD:=cB Tryz.f162 []
theorem zV (a:OA)(n c:Nat)(b:OA)(m d:Nat)(h:Heap)(Q:VH)(hx:FW SS 167 [(.slice a n c),(.slice b m d),(.func (.func 174) ⟨[]⟩ ⟨[]⟩)] h fun v1 h2=>yL v1 fun a3 n4 c5=>Q (.slice a3 n4 c5) h2):FW SS 162 [(.slice a n c),(.slice b m d)] h Q:=cE Ay Tryz.func162 (aj hx)
noncomputable def wk:FD:=cB Tryz.f141 []
theorem ut (a:OA)(n c:Nat)(h:Heap)(Q:VH)(hx:FW SS 161 [(.slice a n c)] h fun v1 h2=>yS v1 fun l3=>aB (decide ((((l3:LB).length:Int):Int) > 1000)) (Q (.tuple ⟨[(aa []),(.int .i64 2)]⟩) h2) (Q (.tuple ⟨[(aa l3),(.int .i64 0)]⟩) h2)):FW SS 141 [(.slice a n c)] h Q:=cE wk Tryz.func141 (aj hx)
noncomputable def GT:FD:=cB Tryz.f137 []
theorem Ev (l m:LB)(h:Heap)(Q:VH)(hx:FW SS 139 [(aa l)] h fun v1 h2=>yB v1 fun b3=>aB (!b3) (Q (.int .i64 0) h2) (FW SS 139 [(aa m)] h2 fun v4 h5=>yB v4 fun b6=>aB (!b6) (Q (.int .i64 0) h5) (FW SS 140 [(aa l)] h5 fun v7 h8=>yL v7 fun a9 n10 c11=>FW SS 140 [(aa m)] h8 fun v12 h13=>yL v12 fun a14 n15 c16=>FW SS 160 [(.slice a9 n10 c11),(.slice a14 n15 c16)] h13 fun v17 h18=>yI .i64 v17 fun n19=>Q (.int .i64 n19) h18))):FW SS 137 [(aa l),(aa m)] h Q:=cE GT Tryz.func137 (aj hx)
noncomputable def Hm:FD:=cB Tryz.f136 []
theorem E5 (l m:LB)(h:Heap)(Q:VH)(hx:FW SS 139 [(aa l)] h fun v1 h2=>yB v1 fun b3=>aB (!b3) (Q (.tuple ⟨[(aa []),(.int .i64 1)]⟩) h2) (FW SS 139 [(aa m)] h2 fun v4 h5=>yB v4 fun b6=>aB (!b6) (Q (.tuple ⟨[(aa []),(.int .i64 1)]⟩) h5) (FW SS 140 [(aa l)] h5 fun v7 h8=>yL v7 fun a9 n10 c11=>FW SS 140 [(aa m)] h8 fun v12 h13=>yL v12 fun a14 n15 c16=>FW SS 159 [(.slice a9 n10 c11),(.slice a14 n15 c16)] h13 fun v17 h18=>yL v17 fun a19 n20 c21=>FW SS 141 [(.slice a19 n20 c21)] h18 fun v22 h23=> ∃ l24:LB,∃ n25:Int,v22=(.tuple ⟨[(aa l24),(.int .i64 n25)]⟩)/\Q (.tuple ⟨[(aa l24),(.int .i64 n25)]⟩) h23))):FW SS 136 [(aa l),(aa m)] h Q:=cE Hm Tryz.func136 (aj hx)
noncomputable def G4:FD:=cB Tryz.f138 []
theorem Ep (l m:LB)(h:Heap)(Q:VH)(hx:FW SS 139 [(aa l)] h fun v1 h2=>yB v1 fun b3=>aB (!b3) (Q (.tuple ⟨[(aa []),(.int .i64 1)]⟩) h2) (FW SS 139 [(aa m)] h2 fun v4 h5=>yB v4 fun b6=>aB (!b6) (Q (.tuple ⟨[(aa []),(.int .i64 1)]⟩) h5) (FW SS 140 [(aa l)] h5 fun v7 h8=>yL v7 fun a9 n10 c11=>FW SS 140 [(aa m)] h8 fun v12 h13=>yL v12 fun a14 n15 c16=>FW SS 160 [(.slice a9 n10 c11),(.slice a14 n15 c16)] h13 fun v17 h18=>yI .i64 v17 fun n19=>aB (decide ((n19:Int) < 0)) (Q (.tuple ⟨[(aa []),(.int .i64 4)]⟩) h18) (FW SS 162 [(.slice a9 n10 c11),(.slice a14 n15 c16)] h18 fun v20 h21=>yL v20 fun a22 n23 c24=>FW SS 161 [(.slice a22 n23 c24)] h21 fun v25 h26=>yS v25 fun l27=>Q (.tuple ⟨[(aa l27),(.int .i64 0)]⟩) h26)))):FW SS 138 [(aa l),(aa m)] h Q:=cE G4 Tryz.func138 (aj hx)
noncomputable def ck:FD:=cB Tryz.f119 [([1,1,1,1,0,1,0,0],[6,7,8,33,34]),([1,1,1,1,0,1,0,0,1,1,0,0,1,1,1,0,0],[6,7,8,9,10,33,34,39,40])]
abbrev de (a:OA)(n c:Nat)(b:OA)(k d:Nat)(t:OA)(tn tc:Nat)(lim:Int)(i:Nat):LV:=[(.slice a n c),(.slice b k d),(.slice t tn tc),(.int .i64 lim),(iA i)]
abbrev d8 (a:OA)(n c:Nat)(b:OA)(k d:Nat)(t:OA)(tn tc:Nat)(lim:Int)(i:Nat)(lim2:Int)(j:Nat)(cy:Int):LV:=[(.slice a n c),(.slice b k d),(.slice t tn tc),(iA i),(.int .u64 cy),(.int .i64 lim),(iA i),(.int .i64 lim2),(iA j)]
theorem Fm (l m:LB)(h:Heap)(Q:VH)(hx:FW SS 139 [(aa l)] h fun v1 h2=>yB v1 fun b3=>aB (!b3) (Q (.tuple ⟨[(aa []),(.int .i64 1)]⟩) h2) (FW SS 139 [(aa m)] h2 fun v4 h5=>yB v4 fun b6=>aB (!b6) (Q (.tuple ⟨[(aa []),(.int .i64 1)]⟩) h5) (FW SS 140 [(aa l)] h5 fun v7 h8=>yL v7 fun a9 n10 c11=>FW SS 140 [(aa m)] h8 fun v12 h13=>yL v12 fun a14 n15 c16=>xR (aX SS.P 136 (.int .i64 (wrap .i64 (wrap .i64 ((n10:Int)+(n15:Int))+1))) (.int .i64 (wrap .i64 (wrap .i64 ((n10:Int)+(n15:Int))+1)))) h13 fun B17 n18 c19 g20=>LL SS ck [1,1,1,1,0,1,0,0] (de a9 n10 c11 a14 n15 c16 (some ⟨h13.next,0,none⟩) n18 c19 (n10:Int) 0) g20 (KK SS ck [1,1,1,1,0,1,0] [] (EE SS ck Q))))):FW SS 119 [(aa l),(aa m)] h Q:=cE ck Tryz.func119 (aj hx)
theorem nU (l m:LB)(a:OA)(n c:Nat)(b:OA)(k d:Nat)(t:OA)(tn tc:Nat)(lim:Int)(Inv:Nat->Nat->Heap->Prop)(Q:VH)(step: ∀ (mz:Nat) (i:Nat) (zz:Nat->Value) (h:Heap),Inv mz i h->aB (decide (((i:Int):Int) < lim)) (LL SS ck [1,1,1,1,0,1,0,0,1,1,0,0,1,1,1,0,0] (d8 a n c b k d t tn tc lim i (wrap .i64 ((k:Int)+1)) 0 0) h (KK SS ck [1,1,0,0,1,1,1,0] [1,1,1,1,0,1,0,0] (RR ck [1,1,1,1,0,1,0,0] (gM (de a n c b k d t tn tc lim) Inv) mz (KK SS ck [1,1,1,1,0,1,0] [] (EE SS ck Q))))) (FW SS 142 [(.slice t tn tc)] h fun v21 h22=>yL v21 fun a23 n24 c25=>FW SS 141 [(.slice a23 n24 c25)] h22 fun v26 h27=> ∃ l28:LB,∃ n29:Int,v26=(.tuple ⟨[(aa l28),(.int .i64 n29)]⟩)/\Q (.tuple ⟨[(aa l28),(.int .i64 n29)]⟩) h27))(mz:Nat){i:Nat}{h:Heap}(hi:Inv mz i h):LL SS ck [1,1,1,1,0,1,0,0] (de a n c b k d t tn tc lim i) h (KK SS ck [1,1,1,1,0,1,0] [] (EE SS ck Q)):=
 cQ (de a n c b k d t tn tc lim) Inv (fun mz i zz h hi=>aj (step mz i zz h hi)) mz hi
theorem oZ (l m:LB)(a:OA)(n c:Nat)(b:OA)(k d:Nat)(t:OA)(tn tc:Nat)(lim:Int)(Inv:Nat->Nat->Heap->Prop)(mz i:Nat)(lim2:Int)(Inv2:Nat->Nat->Int->Heap->Prop)(Q:VH)(step: ∀ (mz2:Nat) (j:Nat) (cy:Int) (zz:Nat->Value) (h:Heap),Inv2 mz2 j cy h->aB (decide (((j:Int):Int) < lim2)) (xP (ag SS.P 136 (.slice t tn tc) (.int .i64 (wrap .i64 ((i:Int)+(j:Int))))) fun p30=>xI .u64 (ah SS.P 103 h (.pointer (some p30))) fun n31=>aB (decide (((j:Int):Int) < (k:Int))) (xP (ag SS.P 136 (.slice a n c) (iA i)) fun p32=>xI .u64 (ah SS.P 103 (room h 12) (.pointer (some p32))) fun n33=>xP (ag SS.P 136 (.slice b k d) (iA j)) fun p34=>xI .u64 (ah SS.P 103 (room h 12) (.pointer (some p34))) fun n35=>xI .u64 (ak SS.P .rem 103 (.int .u64 (wrap .u64 (wrap .u64 (n31+cy)+wrap .u64 (n33*n35)))) (.int .u64 1000000000)) fun n36=>xI .u64 (ak SS.P .quo 103 (.int .u64 (wrap .u64 (wrap .u64 (n31+cy)+wrap .u64 (n33*n35)))) (.int .u64 1000000000)) fun n37=>xP (ag SS.P 136 (.slice t tn tc) (.int .i64 (wrap .i64 ((i:Int)+(j:Int))))) fun p38=>xU (ai SS.P 103 (.pointer (some p38)) (.int .u64 n36) (room h 12)) (room h 12) fun u39 g40=>aF (sy (d8 a n c b k d t tn tc lim i lim2) Inv2) mz2 [(.slice a n c),(.slice b k d),(.slice t tn tc),(iA i),(.int .u64 n37),(.int .i64 lim),(iA i),(.int .i64 lim2),(.int .i64 (wrap .i64 ((j:Int)+1)))] g40) (xI .u64 (ak SS.P .rem 103 (.int .u64 (wrap .u64 (n31+cy))) (.int .u64 1000000000)) fun n41=>xI .u64 (ak SS.P .quo 103 (.int .u64 (wrap .u64 (n31+cy))) (.int .u64 1000000000)) fun n42=>xP (ag SS.P 136 (.slice t tn tc) (.int .i64 (wrap .i64 ((i:Int)+(j:Int))))) fun p43=>xU (ai SS.P 103 (.pointer (some p43)) (.int .u64 n41) h) h fun u44 g45=>aF (sy (d8 a n c b k d t tn tc lim i lim2) Inv2) mz2 [(.slice a n c),(.slice b k d),(.slice t tn tc),(iA i),(.int .u64 n42),(.int .i64 lim),(iA i),(.int .i64 lim2),(.int .i64 (wrap .i64 ((j:Int)+1)))] g45)) (aF (gM (de a n c b k d t tn tc lim) Inv) mz [(.slice a n c),(.slice b k d),(.slice t tn tc),(.int .i64 lim),(.int .i64 (wrap .i64 ((i:Int)+1)))] h))(mz2:Nat){j:Nat}{cy:Int}{h:Heap}(hi:Inv2 mz2 j cy h):LL SS ck [1,1,1,1,0,1,0,0,1,1,0,0,1,1,1,0,0] (d8 a n c b k d t tn tc lim i lim2 j cy) h (KK SS ck [1,1,0,0,1,1,1,0] [1,1,1,1,0,1,0,0] (RR ck [1,1,1,1,0,1,0,0] (gM (de a n c b k d t tn tc lim) Inv) mz (KK SS ck [1,1,1,1,0,1,0] [] (EE SS ck Q)))):=
 mT (d8 a n c b k d t tn tc lim i lim2) Inv2 (fun mz2 j cy zz h hi=>aj (step mz2 j cy zz h hi)) mz2 hi
theorem H8 (x y z:Nat)(hx:x < BB)(hy:y < BB)(hz:z<=1)(h:Heap):FW SS 168 [.int .u64 (x:Int),.int .u64 (y:Int),.int .u64 (z:Int)] h (fun v h'=>v = .tuple ⟨[uv (Num.plusF BB x y z).1,uv (Num.plusF BB x y z).2]⟩/\h'=h):=by
 have hBv:BB=1000000000:=rfl;have e1:wrap .u64 ((x:Int)+(y:Int))=((x+y:Nat):Int):=by rw [<-Int.natCast_add]; exact cC (by omega) (by omega)
 have e2:wrap .u64 (((x+y:Nat):Int)+(z:Int))=((x+y+z:Nat):Int):=by rw [<-Int.natCast_add]; exact cC (by omega) (by omega)
 refine In _ _ _ h _ ?_;rw [e1,e2];refine ⟨_,cP (b:=BB) (by omega) (by decide),_,jd (b:=BB) (by omega) (by omega) (by decide),?_,rfl⟩;unfold uv Num.plusF;rw [natCast_emod,natCast_ediv]
theorem Dt (x y z:Nat)(hx:x < BB)(hy:y < BB)(hz:z<=1)(h:Heap):FW SS 174 [.int .u64 (x:Int),.int .u64 (y:Int),.int .u64 (z:Int)] h (fun v h'=>v = .tuple ⟨[uv (Num.minusF BB x y z).1,uv (Num.minusF BB x y z).2]⟩/\h'=h):=by
 have hBv:BB=1000000000:=rfl;have hsum:x+BB - y - z < 2*BB:=by omega
 have e1:wrap .u64 ((x:Int)+1000000000)=((x+BB:Nat):Int):=by rw [cC (by omega) (by omega)]; omega
 have e2:wrap .u64 (((x+BB:Nat):Int) - (y:Int))=((x+BB - y:Nat):Int):=by rw [cC (by omega) (by omega)]; omega
 have e3:wrap .u64 (((x+BB - y:Nat):Int) - (z:Int))=((x+BB - y - z:Nat):Int):=by rw [cC (by omega) (by omega)]; omega
 refine En _ _ _ h _ ?_;rw [e1,e2,e3];refine ⟨_,cP (b:=BB) (by omega) (by decide),_,jd (b:=BB) (by omega) (by omega) (by decide),?_,rfl⟩;unfold uv Num.minusF;dsimp only;generalize x+BB - y - z=q at *;have hq:q / BB<=1:=by
  have:q / BB < 2:=div_lt_of_lt_mul (by omega);omega
 have e4:wrap .u64 (1 - (q:Int) / (BB:Int))=((1 - q / BB:Nat):Int):=by
  rw [<-natCast_ediv];clear hsum e1 e2 e3;generalize q / BB=r at *;rw [cC (by omega) (by omega)]; omega
 rw [e4,natCast_emod]
theorem JA {p q c:Nat}(hp:p < BB)(hq:q < BB)(hc:c<=1):(Num.plusF BB p q c).2<=1:=by
 show (p+q+c) / BB<=1;have:(p+q+c) / BB < 2:=div_lt_of_lt_mul (by omega);omega
theorem HF {p q c:Nat}(hp:p < BB)(hq:q < BB)(hc:c<=1):(Num.minusF BB p q c).2<=1:=(Num.minus_step cX hp hq hc).2
theorem yU {h:Heap}{a b:Option Addr}{n c m d:Nat}{x y:List Nat}(ra:Rd h 103 (.slice a n c) (x.map uv))(rb:Rd h 103 (.slice b m d) (y.map uv))(hx: ∀ d∈x,d < BB)(hy: ∀ d∈y,d < BB)(hlx:x.length<=10000)(hly:y.length<=10000)(w:Wf h){R:Nat}(fin:Num.trimL (Num.eachF (Num.plusF BB) x y 0 (max x.length y.length+1) 0)=Num.toB BB R):
  FW SS 167 [.slice a n c,.slice b m d,.func (.func 168) ⟨[]⟩ ⟨[]⟩] h (fD h 103 (bl R)):=by
 have hn:n=x.length:=by have:=ra.len; rwa [lM] at this
 have hm:m=y.length:=by have:=rb.len; rwa [lM] at this
 rw [<-hn,<-hm] at fin;have hcr: ∀ j,Num.cr (Num.plusF BB) x y 0 0 j<=1:=by
  intro j
  induction j with
  | zero=>exact zero_le _
  | succ j ih=>exact JA (Num.getD_lt (by decide) hx _) (Num.getD_lt (by decide) hy _) ih
 have hmn:n<=max n m/\m<=max n m:=⟨Nat.le_max_left _ _,Nat.le_max_right _ _⟩
 have hmx2:max n m<=10000:=Nat.max_le.2 ⟨by omega,by omega⟩;have hmx:(if (m:Int) > (n:Int) then (m:Int) else (n:Int))=((max n m:Nat):Int):=by split <;> omega
 generalize max n m=N at *;have L:=mw a n c b m d ((N:Int)+1) (fun mz i cy r rn rc g=>i<=N+1/\mz=N+1 - i/\cy=(Num.cr (Num.plusF BB) x y 0 0 i:Nat)/\OwnR h g 103 (.slice r rn rc) ((Num.eachF (Num.plusF BB) x y 0 i 0).map uv)/\Ok h g) (fD h 103 (bl R)) (by
  intro mz i cy r rn rc; intros; rename_i g hi;obtain ⟨h1,h2,rfl,ho,ok⟩:=hi;have hw3:wrap .i64 ((i:Int)+1)=((i+1:Nat):Int):=by rw [aq (by omega) (by omega)]; omega
  rw [hw3];have hel:(Num.eachF (Num.plusF BB) x y 0 i 0).length=i:=Num.eachF_len _ _ _ _ _ _;have hsn:=Num.eachF_snoc (Num.plusF BB) x y i 0 0;rw [zero_add] at hsn;have hcr1:Num.cr (Num.plusF BB) x y 0 0 (i+1)=(Num.plusF BB (x.getD i 0) (y.getD i 0) (Num.cr (Num.plusF BB) x y 0 0 i)).2:=by
   show (Num.plusF BB (x.getD (0+i) 0) (y.getD (0+i) 0) _).2=_;rw [zero_add]
  have hci:=hcr i;have go:=H8 (x.getD i 0) (y.getD i 0) (Num.cr (Num.plusF BB) x y 0 0 i) (Num.getD_lt (by decide) hx _) (Num.getD_lt (by decide) hy _) hci g;refine ae (fun h5=> ?_) (fun h5=> ?_)
  ·have h5:=dT h5;refine ae (fun h6=> ?_) (fun h6=> ?_)
   ·have h6:=dT h6;obtain ⟨q,g2,g3⟩:=vw (ra.ok ok) (i:=(i:Int)) (by omega) (by omega);rw [toNat_natCast] at g3;refine ⟨q,g2,_,g3,ae (fun h7=> ?_) (fun h7=> ?_)⟩
    ·have h7:=dT h7;obtain ⟨q2,g4,g5⟩:=vw (rb.ok ok) (i:=(i:Int)) (by omega) (by omega);rw [toNat_natCast] at g5;refine ⟨q2,g4,_,g5,go.mono ?_⟩;rintro _ _ ⟨rfl,rfl⟩;refine ⟨_,_,rfl,_,_,_,kF _,?_⟩;obtain ⟨b,m,d,u,g6,g7,g8,g9⟩:=fi w ok ho ((Num.plusF BB (x.getD i 0) (y.getD i 0) (Num.cr (Num.plusF BB) x y 0 0 i)).1:Nat) (by rw [lM,hel]; omega);refine ⟨b,m,d,u,g6,m7 (mz - 1) (by omega) ⟨by omega,by omega,by rw [hcr1],?_,g9⟩⟩;rw [hsn,map_append];exact g8
    ·have h7:=dF h7;have y0:y.getD i 0=0:=by rw [gD,getElem?_eq_none (by omega)]; rfl
     rw [y0] at go hsn hcr1;refine go.mono ?_;rintro _ _ ⟨rfl,rfl⟩;refine ⟨_,_,rfl,_,_,_,kF _,?_⟩;obtain ⟨b,m,d,u,g6,g7,g8,g9⟩:=fi w ok ho ((Num.plusF BB (x.getD i 0) 0 (Num.cr (Num.plusF BB) x y 0 0 i)).1:Nat) (by rw [lM,hel]; omega);refine ⟨b,m,d,u,g6,m7 (mz - 1) (by omega) ⟨by omega,by omega,by rw [hcr1],?_,g9⟩⟩;rw [hsn,map_append];exact g8
   ·have h6:=dF h6;have x0:x.getD i 0=0:=by rw [gD,getElem?_eq_none (by omega)]; rfl
    rw [x0] at go hsn hcr1;refine ae (fun h7=> ?_) (fun h7=> ?_)
    ·have h7:=dT h7;obtain ⟨q2,g4,g5⟩:=vw (rb.ok ok) (i:=(i:Int)) (by omega) (by omega);rw [toNat_natCast] at g5;refine ⟨q2,g4,_,g5,go.mono ?_⟩;rintro _ _ ⟨rfl,rfl⟩;refine ⟨_,_,rfl,_,_,_,kF _,?_⟩;obtain ⟨b,m,d,u,g6,g7,g8,g9⟩:=fi w ok ho ((Num.plusF BB 0 (y.getD i 0) (Num.cr (Num.plusF BB) x y 0 0 i)).1:Nat) (by rw [lM,hel]; omega);refine ⟨b,m,d,u,g6,m7 (mz - 1) (by omega) ⟨by omega,by omega,by rw [hcr1],?_,g9⟩⟩;rw [hsn,map_append];exact g8
    ·have h7:=dF h7;have y0:y.getD i 0=0:=by rw [gD,getElem?_eq_none (by omega)]; rfl
     rw [y0] at go hsn hcr1;refine go.mono ?_;rintro _ _ ⟨rfl,rfl⟩;refine ⟨_,_,rfl,_,_,_,kF _,?_⟩;obtain ⟨b,m,d,u,g6,g7,g8,g9⟩:=fi w ok ho ((Num.plusF BB 0 0 (Num.cr (Num.plusF BB) x y 0 0 i)).1:Nat) (by rw [lM,hel]; omega);refine ⟨b,m,d,u,g6,m7 (mz - 1) (by omega) ⟨by omega,by omega,by rw [hcr1],?_,g9⟩⟩;rw [hsn,map_append];exact g8
  ·have h5:=dF h5;obtain rfl:i=N+1:=by omega
   refine (jK ho (by rw [hel]; omega)).mono ?_;rintro _ g2 ⟨a',n',c',rfl,o2,rfl⟩;rw [fin] at o2;exact ⟨a',n',c',rfl,a',n',c',rfl,o2,ok⟩)
 refine zj a n c b m d h _ ⟨_,pw _ _ _,?_⟩;have hw:wrap .i64 ((N:Int)+1)=(N:Int)+1:=aq (by omega) (by omega);dsimp only;rw [hmx,hw];exact L (N+1) (i:=0) ⟨by omega,by omega,rfl,.inl ⟨rfl,rfl⟩,Ok.refl w⟩
theorem wH {h:Heap}{a b:Option Addr}{n c m d:Nat}{x y:List Nat}(ra:Rd h 103 (.slice a n c) (x.map uv))(rb:Rd h 103 (.slice b m d) (y.map uv))(hx: ∀ d∈x,d < BB)(hy: ∀ d∈y,d < BB)(hlx:x.length<=10000)(hly:y.length<=10000)(w:Wf h){R:Nat}(fin:Num.trimL (Num.eachF (Num.minusF BB) x y 0 (max x.length y.length+1) 0)=Num.toB BB R):
  FW SS 167 [.slice a n c,.slice b m d,.func (.func 174) ⟨[]⟩ ⟨[]⟩] h (fD h 103 (bl R)):=by
 have hn:n=x.length:=by have:=ra.len; rwa [lM] at this
 have hm:m=y.length:=by have:=rb.len; rwa [lM] at this
 rw [<-hn,<-hm] at fin;have hcr: ∀ j,Num.cr (Num.minusF BB) x y 0 0 j<=1:=by
  intro j
  induction j with
  | zero=>exact zero_le _
  | succ j ih=>exact HF (Num.getD_lt (by decide) hx _) (Num.getD_lt (by decide) hy _) ih
 have hmn:n<=max n m/\m<=max n m:=⟨Nat.le_max_left _ _,Nat.le_max_right _ _⟩
 have hmx2:max n m<=10000:=Nat.max_le.2 ⟨by omega,by omega⟩;have hmx:(if (m:Int) > (n:Int) then (m:Int) else (n:Int))=((max n m:Nat):Int):=by split <;> omega
 generalize max n m=N at *;have L:=lN a n c b m d ((N:Int)+1) (fun mz i cy r rn rc g=>i<=N+1/\mz=N+1 - i/\cy=(Num.cr (Num.minusF BB) x y 0 0 i:Nat)/\OwnR h g 103 (.slice r rn rc) ((Num.eachF (Num.minusF BB) x y 0 i 0).map uv)/\Ok h g) (fD h 103 (bl R)) (by
  intro mz i cy r rn rc; intros; rename_i g hi;obtain ⟨h1,h2,rfl,ho,ok⟩:=hi;have hw3:wrap .i64 ((i:Int)+1)=((i+1:Nat):Int):=by rw [aq (by omega) (by omega)]; omega
  rw [hw3];have hel:(Num.eachF (Num.minusF BB) x y 0 i 0).length=i:=Num.eachF_len _ _ _ _ _ _;have hsn:=Num.eachF_snoc (Num.minusF BB) x y i 0 0;rw [zero_add] at hsn;have hcr1:Num.cr (Num.minusF BB) x y 0 0 (i+1)=(Num.minusF BB (x.getD i 0) (y.getD i 0) (Num.cr (Num.minusF BB) x y 0 0 i)).2:=by
   show (Num.minusF BB (x.getD (0+i) 0) (y.getD (0+i) 0) _).2=_;rw [zero_add]
  have hci:=hcr i;have go:=Dt (x.getD i 0) (y.getD i 0) (Num.cr (Num.minusF BB) x y 0 0 i) (Num.getD_lt (by decide) hx _) (Num.getD_lt (by decide) hy _) hci g;refine ae (fun h5=> ?_) (fun h5=> ?_)
  ·have h5:=dT h5;refine ae (fun h6=> ?_) (fun h6=> ?_)
   ·have h6:=dT h6;obtain ⟨q,g2,g3⟩:=vw (ra.ok ok) (i:=(i:Int)) (by omega) (by omega);rw [toNat_natCast] at g3;refine ⟨q,g2,_,g3,ae (fun h7=> ?_) (fun h7=> ?_)⟩
    ·have h7:=dT h7;obtain ⟨q2,g4,g5⟩:=vw (rb.ok ok) (i:=(i:Int)) (by omega) (by omega);rw [toNat_natCast] at g5;refine ⟨q2,g4,_,g5,go.mono ?_⟩;rintro _ _ ⟨rfl,rfl⟩;refine ⟨_,_,rfl,_,_,_,kF _,?_⟩;obtain ⟨b,m,d,u,g6,g7,g8,g9⟩:=fi w ok ho ((Num.minusF BB (x.getD i 0) (y.getD i 0) (Num.cr (Num.minusF BB) x y 0 0 i)).1:Nat) (by rw [lM,hel]; omega);refine ⟨b,m,d,u,g6,m7 (mz - 1) (by omega) ⟨by omega,by omega,by rw [hcr1],?_,g9⟩⟩;rw [hsn,map_append];exact g8
    ·have h7:=dF h7;have y0:y.getD i 0=0:=by rw [gD,getElem?_eq_none (by omega)]; rfl
     rw [y0] at go hsn hcr1;refine go.mono ?_;rintro _ _ ⟨rfl,rfl⟩;refine ⟨_,_,rfl,_,_,_,kF _,?_⟩;obtain ⟨b,m,d,u,g6,g7,g8,g9⟩:=fi w ok ho ((Num.minusF BB (x.getD i 0) 0 (Num.cr (Num.minusF BB) x y 0 0 i)).1:Nat) (by rw [lM,hel]; omega);refine ⟨b,m,d,u,g6,m7 (mz - 1) (by omega) ⟨by omega,by omega,by rw [hcr1],?_,g9⟩⟩;rw [hsn,map_append];exact g8
   ·have h6:=dF h6;have x0:x.getD i 0=0:=by rw [gD,getElem?_eq_none (by omega)]; rfl
    rw [x0] at go hsn hcr1;refine ae (fun h7=> ?_) (fun h7=> ?_)
    ·have h7:=dT h7;obtain ⟨q2,g4,g5⟩:=vw (rb.ok ok) (i:=(i:Int)) (by omega) (by omega);rw [toNat_natCast] at g5;refine ⟨q2,g4,_,g5,go.mono ?_⟩;rintro _ _ ⟨rfl,rfl⟩;refine ⟨_,_,rfl,_,_,_,kF _,?_⟩;obtain ⟨b,m,d,u,g6,g7,g8,g9⟩:=fi w ok ho ((Num.minusF BB 0 (y.getD i 0) (Num.cr (Num.minusF BB) x y 0 0 i)).1:Nat) (by rw [lM,hel]; omega);refine ⟨b,m,d,u,g6,m7 (mz - 1) (by omega) ⟨by omega,by omega,by rw [hcr1],?_,g9⟩⟩;rw [hsn,map_append];exact g8
    ·have h7:=dF h7;have y0:y.getD i 0=0:=by rw [gD,getElem?_eq_none (by omega)]; rfl
     rw [y0] at go hsn hcr1;refine go.mono ?_;rintro _ _ ⟨rfl,rfl⟩;refine ⟨_,_,rfl,_,_,_,kF _,?_⟩;obtain ⟨b,m,d,u,g6,g7,g8,g9⟩:=fi w ok ho ((Num.minusF BB 0 0 (Num.cr (Num.minusF BB) x y 0 0 i)).1:Nat) (by rw [lM,hel]; omega);refine ⟨b,m,d,u,g6,m7 (mz - 1) (by omega) ⟨by omega,by omega,by rw [hcr1],?_,g9⟩⟩;rw [hsn,map_append];exact g8
  ·have h5:=dF h5;obtain rfl:i=N+1:=by omega
   refine (jK ho (by rw [hel]; omega)).mono ?_;rintro _ g2 ⟨a',n',c',rfl,o2,rfl⟩;rw [fin] at o2;exact ⟨a',n',c',rfl,a',n',c',rfl,o2,ok⟩)
 refine wC a n c b m d h _ ⟨_,pw _ _ _,?_⟩;have hw:wrap .i64 ((N:Int)+1)=(N:Int)+1:=aq (by omega) (by omega);dsimp only;rw [hmx,hw];exact L (N+1) (i:=0) ⟨by omega,by omega,rfl,.inl ⟨rfl,rfl⟩,Ok.refl w⟩
theorem BZ {h:Heap}{a b:Option Addr}{n c m d X Y:Nat}(ra:Rd h 103 (.slice a n c) (bl X))(rb:Rd h 103 (.slice b m d) (bl Y))(hlx:(Num.toB BB X).length<=10000)(hly:(Num.toB BB Y).length<=10000)(w:Wf h):FW SS 159 [.slice a n c,.slice b m d] h (fD h 103 (bl (X+Y))):=by
 have hX:=Num.toB_lt cX X;have hY:=Num.toB_lt cX Y;refine A1 a n c b m d h _ ((yU ra rb hX hY hlx hly w (R:=X+Y) ?_).mono ?_)
 ·have h1:=Nat.le_max_left (Num.toB BB X).length (Num.toB BB Y).length;have h2:=Nat.le_max_right (Num.toB BB X).length (Num.toB BB Y).length;rw [Num.trimL_eq cX (Num.eachF_lt (fun p q c=>mod_lt _ (by decide)) _ _ _ 0 0),Num.plus_bv cX hX hY _ 0 0 (by omega) (by omega) (by omega) (by omega),drop_zero,drop_zero,Num.bv_toB cX,Num.bv_toB cX]; rfl
 ·rintro _ g ⟨a',n',c',rfl,o,ok⟩;exact ⟨_,_,_,rfl,a',n',c',rfl,o,ok⟩
theorem xM {h:Heap}{a b:Option Addr}{n c m d X Y:Nat}(ra:Rd h 103 (.slice a n c) (bl X))(rb:Rd h 103 (.slice b m d) (bl Y))(hXY:Y<=X)(hlx:(Num.toB BB X).length<=10000)(hly:(Num.toB BB Y).length<=10000)(w:Wf h):FW SS 162 [.slice a n c,.slice b m d] h (fD h 103 (bl (X - Y))):=by
 have hX:=Num.toB_lt cX X;have hY:=Num.toB_lt cX Y;refine zV a n c b m d h _ ((wH ra rb hX hY hlx hly w (R:=X - Y) ?_).mono ?_)
 ·have h1:=Nat.le_max_left (Num.toB BB X).length (Num.toB BB Y).length;have h2:=Nat.le_max_right (Num.toB BB X).length (Num.toB BB Y).length;rw [Num.trimL_eq cX (Num.eachF_lt (fun p q c=>mod_lt _ (by decide)) _ _ _ 0 0)];have h3:=Num.minus_bv cX hX hY (max (Num.toB BB X).length (Num.toB BB Y).length+1) 0 0 (by omega) (by omega) (by omega) (by rw [drop_zero,drop_zero,Num.bv_toB cX,Num.bv_toB cX]; exact hXY);rw [drop_zero,drop_zero,Num.bv_toB cX,Num.bv_toB cX] at h3;congr 1;omega
 ·rintro _ g ⟨a',n',c',rfl,o,ok⟩;exact ⟨_,_,_,rfl,a',n',c',rfl,o,ok⟩
end Go.Proofs.YtoabjjimjldcfaaGreatDoor
end
section
set_option linter.unusedVariables false
namespace Go.Num
theorem pq (B:Nat)(y:List Nat)(k:Nat):bv B (y.take (k+1))=bv B (y.take k)+B ^ k*y.getD k 0:=by
 rcases lt_or_ge k y.length with h | h
 ·rw [List.take_succ_eq_append_getElem h,bv_snoc,length_take,min_eq_left (by omega),gD,gE h]; rfl
 ·rw [take_of_length_le (by omega),take_of_length_le (by omega),gD,getElem?_eq_none (by omega)]; simp
theorem FO {B:Nat}{x:List Nat}(hB:0 < B)(h: ∀ d∈x,d < B)(i:Nat):x.getD i 0 < B:=by
 rcases lt_or_ge i x.length with g | g
 ·rw [gD,gE g]; exact h _ (getElem_mem _)
 ·rw [gD,getElem?_eq_none g]; exact hB
theorem mul_step {B:Nat}(hB:1 < B){L y:List Nat}{i k cy xi P p:Nat}(hL: ∀ d∈L,d < B)(hj:i+k < L.length)(hcy:cy < B)(hxi:xi < B)(hyk:y.getD k 0 < B)(hp:p=L.getD (i+k) 0+cy+xi*y.getD k 0)(eq:bv B L+cy*B ^ (i+k)=P+xi*bv B (y.take k)*B ^ i):
  (∀ d∈L.set (i+k) (p % B),d < B)/\p / B < B/\bv B (L.set (i+k) (p % B))+p / B*B ^ (i+(k+1))=P+xi*bv B (y.take (k+1))*B ^ i:=by
 have hLj:=FO (by omega) hL (i+k);refine ⟨fun d hd=> ?_,?_,?_⟩
 ·rcases List.mem_or_eq_of_mem_set hd with h | h
  ·exact hL d h
  ·rw [h]; exact mod_lt _ (by omega)
 ·rw [Nat.div_lt_iff_lt_mul (by omega),hp];have h1:xi*y.getD k 0<=(B - 1)*(B - 1):=mul_le_mul (by omega) (by omega);obtain ⟨C,rfl⟩: ∃ C,B=C+1:=⟨B - 1,by omega⟩
  rw [add_sub_cancel] at h1;have h2:(C+1)*(C+1)=C*C+C+C+1:=by rw [mul_succ,succ_mul]; omega
  omega
 ·have h1:=Ck (B:=B) L (i+k) (p % B) hj;have h2:=Nat.mod_add_div p B;have h3:B ^ (i+k)*(p % B)+B ^ (i+k)*(B*(p / B))=B ^ (i+k)*p:=by rw [<-mul_add,h2]
  have h4:p / B*B ^ (i+(k+1))=B ^ (i+k)*(B*(p / B)):=by
   rw [<-Nat.add_assoc,pow_succ,mul_comm (p / B),mul_assoc]
  have h5:B ^ (i+k)*p=B ^ (i+k)*L.getD (i+k) 0+B ^ (i+k)*cy+B ^ (i+k)*(xi*y.getD k 0):=by rw [hp,mul_add,mul_add]
  have h6:xi*bv B (y.take (k+1))*B ^ i=xi*bv B (y.take k)*B ^ i+B ^ (i+k)*(xi*y.getD k 0):=by
   rw [pq,mul_add,add_mul,pow_add];congr 1;rw [Nat.mul_left_comm xi,mul_comm _ (B ^ i),mul_assoc]
  rw [mul_comm cy] at eq;rw [h4,h6];omega
theorem mul_end {B:Nat}(hB:1 < B){L x y:List Nat}{i cy:Nat}(hx: ∀ d∈x,d < B)(hy: ∀ d∈y,d < B)(hi:i < x.length)(hL: ∀ d∈L,d < B)(eq:bv B L+cy*B ^ (i+(y.length+1))=bv B (x.take i)*bv B y+x.getD i 0*bv B (y.take (y.length+1))*B ^ i):
  bv B L=bv B (x.take (i+1))*bv B y:=by
 have h1:bv B (x.take (i+1))*bv B y=bv B (x.take i)*bv B y+x.getD i 0*bv B y*B ^ i:=by
  rw [pq,add_mul];congr 1;rw [mul_assoc,mul_comm]
 rw [take_of_length_le (by omega:y.length<=y.length+1),<-h1] at eq;have h2:bv B (x.take (i+1)) < B ^ (i+1):=by
  have:=bv_lt (b:=B) (x:=x.take (i+1)) (fun d hd=>hx d (mem_of_mem_take hd));rwa [length_take,min_eq_left (by omega)] at this
 have h3:=bv_lt hy;have h4:bv B (x.take (i+1))*bv B y < B ^ (i+(y.length+1)):=by
  rw [show i+(y.length+1)=(i+1)+y.length by omega,pow_add];exact Nat.mul_lt_mul'' h2 h3
 rcases eq_zero_or_pos cy with h | h
 ·subst h; omega
 ·have h5:1*B ^ (i+(y.length+1))<=cy*B ^ (i+(y.length+1)):=mul_le_mul_right _ h;omega
theorem bv_replicate (B n:Nat):bv B (List.replicate n 0)=0:=by
 induction n with
 | zero=>rfl
 | succ n ih=>rw [List.replicate_succ,bv,ih]; simp
end Go.Num
end
section
set_option linter.unusedVariables false
set_option maxRecDepth 100000
namespace Go.Proofs.YtoabjjimjldcfaaGreatDoor
open Go Go.Ab
def oc (X:Nat):Value:=if 1000 < (Num.toDec X).length then uY [] 2 else uY (Num.toDec X) 0
def BY (a b:List UInt8):Value:=if Num.valid a=true/\Num.valid b=true then oc (Num.val a+Num.val b) else uY [] 1
def Ao (a b:List UInt8):Value:=if Num.valid a=true/\Num.valid b=true then oc (Num.val a*Num.val b) else uY [] 1
def As (a b:List UInt8):Value:=if Num.valid a=true/\Num.valid b=true then (if Num.val a < Num.val b then uY [] 4 else uY (Num.toDec (Num.val a - Num.val b)) 0) else uY [] 1
def Ch (a b:List UInt8):Value:=if Num.valid a=true/\Num.valid b=true then .int .i64 (Num.cmpN (Num.val a) (Num.val b)) else .int .i64 0
theorem mK {h:Heap}{a:Option Addr}{n c X:Nat}(ra:Rd h 103 (.slice a n c) (bl X))(hlen:(Num.toB BB X).length<=10000)(t:Tab h)(w:Wf h):FW SS 141 [.slice a n c] h (fun v h'=>v=oc X/\Ok h h'):=by
 refine ut a n c h _ ((nl ra hlen t w).mono ?_);rintro _ g ⟨rfl,ok⟩;refine ⟨_,rfl,ae (fun h1=> ?_) (fun h1=> ?_)⟩
 ·have h1:=dT h1;refine ⟨?_,ok⟩;unfold oc; rw [if_pos (by omega)]; rfl
 ·have h1:=dF h1;refine ⟨?_,ok⟩;unfold oc; rw [if_neg (by omega)]; rfl
structure TwoB (a b:List UInt8)(X Y:Nat):Prop where
 va:Num.valid a=true
 vb:Num.valid b=true
 ea:Num.val a=X
 eb:Num.val b=Y
 lx:(Num.toB BB X).length<=112
 ly:(Num.toB BB Y).length<=112
theorem Jx {a b:List UInt8}(va:Num.valid a=true)(vb:Num.valid b=true):TwoB a b (Num.val a) (Num.val b):=by
 obtain ⟨X,_,hX,eX⟩:=Num.valid_ex va;obtain ⟨Y,_,hY,eY⟩:=Num.valid_ex vb;exact ⟨va,vb,rfl,rfl,by rw [eX]; exact jc hX,by rw [eY]; exact jc hY⟩
theorem gw {a:List UInt8}(va:Num.valid a=true){h:Heap}(w:Wf h):FW SS 140 [aa a] h (fD h 103 (bl (Num.val a))):=by
 have da:=(Num.valid_iff.1 va)
 exact jQ a da.1.2.1 (le_trans da.2 (by omega)) h w
theorem Kl {X Y:Nat}(hx:(Num.toB BB X).length<=112)(hy:(Num.toB BB Y).length<=112):(Num.toB BB (X+Y)).length<=10000:=by
 have h1:=Num.bv_lt (Num.toB_lt cX X);have h2:=Num.bv_lt (Num.toB_lt cX Y);rw [Num.bv_toB cX] at h1 h2;have h3:=lt_of_lt_of_le h1 (pow_le_pow_right (show 0 < BB by decide) hx);have h4:=lt_of_lt_of_le h2 (pow_le_pow_right (show 0 < BB by decide) hy);refine le_trans (Num.toB_len_le cX (k:=113) ?_) (by omega);rw [pow_succ];have h5:2*BB ^ 112<=BB ^ 112*BB:=by rw [mul_comm]; exact mul_le_mul_left _ (by decide)
 generalize BB ^ 112=M at *;omega
theorem HD {m n:Nat}(h:m<=n):(Num.toB BB m).length<=(Num.toB BB n).length:=Nat.le_of_not_lt fun g=>absurd (Num.toB_len_lt cX g) (Nat.not_lt.2 h)
theorem zt (X:Nat): ∃ l n,oc X=uY l n:=by
 unfold oc; split <;> exact ⟨_,_,rfl⟩
theorem Dg {v:Value}(hv: ∃ l n,v=uY l n){K:Value->Prop}(hK:K v): ∃ (l:List UInt8)(n:Int),v = .tuple ⟨[aa l,.int .i64 n]⟩/\K (.tuple ⟨[aa l,.int .i64 n]⟩):=by
 obtain ⟨l,n,rfl⟩:=hv;exact ⟨l,n,rfl,hK⟩
theorem cmpN_lt {x y:Nat}(h:Num.cmpN x y < 0):x < y:=by
 unfold Num.cmpN at h; split at h <;> omega
theorem Kp {x y:Nat}(h: ¬ Num.cmpN x y < 0):y<=x:=by
 unfold Num.cmpN at h; split at h <;> omega
theorem Fv (a b:List UInt8){h:Heap}(t:Tab h)(w:Wf h):FW SS 136 [aa a,aa b] h (fun v h'=>v=BY a b/\Ok h h'):=by
 refine E5 a b h _ ((bT a h).mono ?_);rintro _ g0 ⟨rfl,e0⟩;obtain rfl:h=g0:=e0.symm;refine ⟨_,rfl,ae (fun g=> ?_) (fun g=> ?_)⟩
 ·have g:Num.valid a=false:=by simpa using g
  refine ⟨?_,Ok.refl w⟩;unfold BY; rw [if_neg (fun e=>by rw [e.1] at g; cases g)]; rfl
 have g:Num.valid a=true:=by simpa using g
 refine (bT b h).mono ?_;rintro _ g0 ⟨rfl,e0⟩;obtain rfl:h=g0:=e0.symm;refine ⟨_,rfl,ae (fun g2=> ?_) (fun g2=> ?_)⟩
 ·have g2:Num.valid b=false:=by simpa using g2
  refine ⟨?_,Ok.refl w⟩;unfold BY; rw [if_neg (fun e=>by rw [e.2] at g2; cases g2)]; rfl
 have g2:Num.valid b=true:=by simpa using g2
 have tb:=Jx g g2;have lx:=tb.lx;have ly:=tb.ly;refine (gw g w).mono ?_;rintro _ h1 ⟨a1,n1,c1,rfl,o1,ok1⟩;refine ⟨_,_,_,rfl,(gw g2 ok1.wf).mono ?_⟩;rintro _ h2 ⟨a2,n2,c2,rfl,o2,ok2⟩;refine ⟨_,_,_,rfl,?_⟩;have hS:BY a b=oc (Num.val a+Num.val b):=by unfold BY; rw [if_pos ⟨g,g2⟩]
 rw [hS];have r1:=o1.rd.ok ok2;have r2:=o2.rd;have ok:=ok1.trans ok2;refine (BZ r1 r2 (by omega) (by omega) ok.wf).mono ?_;rintro _ h3 ⟨a3,n3,c3,rfl,o3,ok3⟩;refine ⟨_,_,_,rfl,(mK o3.rd (Kl lx ly) (t.ok (ok.trans ok3)) ok3.wf).mono ?_⟩;rintro _ h4 ⟨rfl,ok4⟩;exact Dg (K:=fun v=>v=oc (Num.val a+Num.val b)/\Ok h h4) (zt _) ⟨rfl,(ok.trans ok3).trans ok4⟩
theorem uH (a b:List UInt8){h:Heap}(t:Tab h)(w:Wf h):FW SS 138 [aa a,aa b] h (fun v h'=>v=As a b/\Ok h h'):=by
 refine Ep a b h _ ((bT a h).mono ?_);rintro _ g0 ⟨rfl,e0⟩;obtain rfl:h=g0:=e0.symm;refine ⟨_,rfl,ae (fun g=> ?_) (fun g=> ?_)⟩
 ·have g:Num.valid a=false:=by simpa using g
  refine ⟨?_,Ok.refl w⟩;unfold As; rw [if_neg (fun e=>by rw [e.1] at g; cases g)]; rfl
 have g:Num.valid a=true:=by simpa using g
 refine (bT b h).mono ?_;rintro _ g0 ⟨rfl,e0⟩;obtain rfl:h=g0:=e0.symm;refine ⟨_,rfl,ae (fun g2=> ?_) (fun g2=> ?_)⟩
 ·have g2:Num.valid b=false:=by simpa using g2
  refine ⟨?_,Ok.refl w⟩;unfold As; rw [if_neg (fun e=>by rw [e.2] at g2; cases g2)]; rfl
 have g2:Num.valid b=true:=by simpa using g2
 have tb:=Jx g g2;have lx:=tb.lx;have ly:=tb.ly;refine (gw g w).mono ?_;rintro _ h1 ⟨a1,n1,c1,rfl,o1,ok1⟩;refine ⟨_,_,_,rfl,(gw g2 ok1.wf).mono ?_⟩;rintro _ h2 ⟨a2,n2,c2,rfl,o2,ok2⟩;refine ⟨_,_,_,rfl,?_⟩;have hS:As a b=(if Num.val a < Num.val b then uY [] 4 else uY (Num.toDec (Num.val a - Num.val b)) 0):=by unfold As; rw [if_pos ⟨g,g2⟩]
 rw [hS];have r1:=o1.rd.ok ok2;have r2:=o2.rd;have ok:=ok1.trans ok2;refine (jg r1 r2 (by omega) ok.wf).mono ?_;rintro _ h3 ⟨rfl,ok3⟩;refine ⟨_,rfl,ae (fun h6=> ?_) (fun h6=> ?_)⟩
 ·have h6:=dT h6;rw [if_pos (cmpN_lt h6)];exact ⟨rfl,ok.trans ok3⟩
 ·have h6:=dF h6;have hle:=Kp h6;rw [if_neg (Nat.not_lt.2 hle)];refine (xM (r1.ok ok3) (r2.ok ok3) hle (by omega) (by omega) ok3.wf).mono ?_;rintro _ h4 ⟨a3,n3,c3,rfl,o3,ok4⟩;refine ⟨_,_,_,rfl,(nl o3.rd (le_trans (HD (Nat.sub_le _ _)) (by omega)) (t.ok ((ok.trans ok3).trans ok4)) ok4.wf).mono ?_⟩;rintro _ h5 ⟨rfl,ok5⟩;exact ⟨_,rfl,rfl,((ok.trans ok3).trans ok4).trans ok5⟩
theorem Eo (a b:List UInt8){h:Heap}(t:Tab h)(w:Wf h):FW SS 137 [aa a,aa b] h (fun v h'=>v=Ch a b/\Ok h h'):=by
 refine Ev a b h _ ((bT a h).mono ?_);rintro _ g0 ⟨rfl,e0⟩;obtain rfl:h=g0:=e0.symm;refine ⟨_,rfl,ae (fun g=> ?_) (fun g=> ?_)⟩
 ·have g:Num.valid a=false:=by simpa using g
  refine ⟨?_,Ok.refl w⟩;unfold Ch; rw [if_neg (fun e=>by rw [e.1] at g; cases g)]
 have g:Num.valid a=true:=by simpa using g
 refine (bT b h).mono ?_;rintro _ g0 ⟨rfl,e0⟩;obtain rfl:h=g0:=e0.symm;refine ⟨_,rfl,ae (fun g2=> ?_) (fun g2=> ?_)⟩
 ·have g2:Num.valid b=false:=by simpa using g2
  refine ⟨?_,Ok.refl w⟩;unfold Ch; rw [if_neg (fun e=>by rw [e.2] at g2; cases g2)]
 have g2:Num.valid b=true:=by simpa using g2
 have tb:=Jx g g2;have lx:=tb.lx;have ly:=tb.ly;refine (gw g w).mono ?_;rintro _ h1 ⟨a1,n1,c1,rfl,o1,ok1⟩;refine ⟨_,_,_,rfl,(gw g2 ok1.wf).mono ?_⟩;rintro _ h2 ⟨a2,n2,c2,rfl,o2,ok2⟩;refine ⟨_,_,_,rfl,?_⟩;have hS:Ch a b = .int .i64 (Num.cmpN (Num.val a) (Num.val b)):=by unfold Ch; rw [if_pos ⟨g,g2⟩]
 rw [hS];have r1:=o1.rd.ok ok2;have r2:=o2.rd;have ok:=ok1.trans ok2;refine (jg r1 r2 (by omega) ok.wf).mono ?_;rintro _ h3 ⟨rfl,ok3⟩;exact ⟨_,rfl,rfl,ok.trans ok3⟩
end Go.Proofs.YtoabjjimjldcfaaGreatDoor
end
section
namespace Go.Num
def idxB (c:UInt8):List UInt8->Nat
 | []=>0
 | x::l=>if x=c then 0 else idxB c l+1
def isNeg (a:List UInt8):Bool:=a.head? == some 45
def afterNeg (a:List UInt8):List UInt8:=if isNeg a then a.drop 1 else a
def numOf (a:List UInt8):List UInt8:=(afterNeg a).take (idxB 47 (afterNeg a))
def hasStroke (a:List UInt8):Bool:=decide (idxB 47 (afterNeg a) < (afterNeg a).length)
def denOf (a:List UInt8):List UInt8:=if hasStroke a then (afterNeg a).drop (idxB 47 (afterNeg a)+1) else [49]
def isRat (a:List UInt8):Bool:=valid (numOf a) && valid (denOf a) && decide ((numOf a).length<=400) && decide ((denOf a).length<=400) && !(isNeg a && numOf a == [48]) && !(hasStroke a && (denOf a == [48] || denOf a == [49])) && decide (Nat.gcd (val (numOf a)) (val (denOf a))=1)
structure IsRat (a:List UInt8):Prop where
 num:valid (numOf a)=true
 den:valid (denOf a)=true
 ln:(numOf a).length<=400
 ld:(denOf a).length<=400
 neg: ¬ (isNeg a=true/\numOf a=[48])
 fr: ¬ (hasStroke a=true/\(denOf a=[48]\/denOf a=[49]))
 one:Nat.gcd (val (numOf a)) (val (denOf a))=1
theorem isRat_iff {a:List UInt8}:isRat a=true↔IsRat a:=by
 unfold isRat;simp only [Bool.and_eq_true,Bool.not_eq_true',Bool.and_eq_false_iff,Bool.or_eq_false_iff,decide_eq_true_eq,beq_eq_false_iff_ne];constructor
 ·rintro ⟨⟨⟨⟨⟨⟨h1,h2⟩,h3⟩,h4⟩,h5⟩,h6⟩,h7⟩;refine ⟨h1,h2,h3,h4,fun ⟨e1,e2⟩=> ?_,fun ⟨e1,e2⟩=> ?_,h7⟩
  ·rcases h5 with h5 | h5
   ·rw [e1] at h5; cases h5
   ·exact h5 e2
  ·rcases h6 with h6 | h6
   ·rw [e1] at h6; cases h6
   ·rcases e2 with e2 | e2
    ·exact h6.1 e2
    ·exact h6.2 e2
 ·rintro ⟨h1,h2,h3,h4,h5,h6,h7⟩;refine ⟨⟨⟨⟨⟨⟨h1,h2⟩,h3⟩,h4⟩,?_⟩,?_⟩,h7⟩
  ·cases hn:isNeg a with
   | false=>exact .inl rfl
   | true=>exact .inr fun e=>h5 ⟨hn,e⟩
  ·cases hn:hasStroke a with
   | false=>exact .inl rfl
   | true=>exact .inr ⟨fun e=>h6 ⟨hn,.inl e⟩,fun e=>h6 ⟨hn,.inr e⟩⟩
theorem valid_lt {a:List UInt8}{k:Nat}(h:valid a=true)(hk:0 < k)(hl:a.length<=k):val a < 10 ^ k:=by
 obtain ⟨n,rfl,_,e⟩:=valid_ex h;rw [e]; exact (toDec_len_le hk).1 hl
def plusS (s:Bool)(A:Nat)(t:Bool)(B:Nat):Bool×Nat:=if s=t then (s,A+B) else if A < B then (t,B - A) else (s,A - B)
def cmpRat (a b:List UInt8):Int:=
 if isRat a=true/\isRat b=true then
  if (plusS (isNeg a) (val (numOf a)*val (denOf b)) (!isNeg b) (val (numOf b)*val (denOf a))).2=0 then 0
  else if (plusS (isNeg a) (val (numOf a)*val (denOf b)) (!isNeg b) (val (numOf b)*val (denOf a))).1=true then -1 else 1
 else 0
theorem Kt {A B k m:Nat}(e:k+k=m)(hA:A < 10 ^ k)(hB:B < 10 ^ k):A*B < 10 ^ m:=by
 subst e;rw [pow_add];exact Nat.mul_lt_mul'' hA hB
theorem pow_400_800 {A B:Nat}(hA:A < 10 ^ 400)(hB:B < 10 ^ 400):A*B < 10 ^ 800:=Kt (k:=400) (m:=800) rfl hA hB
theorem pow_mono10 {k m:Nat}(h:k<=m):10 ^ k<=10 ^ m:=pow_le_pow_right (by decide) h
theorem Dy {k m:Nat}(h:k+1<=m):10 ^ k+10 ^ k<=10 ^ m:=by
 have h1:=pow_mono10 h;rw [pow_succ] at h1;omega
theorem pow_800:(10:Nat) ^ 800+10 ^ 800<=10 ^ 1000:=Dy (k:=800) (m:=1000) (by decide)
end Go.Num
end
